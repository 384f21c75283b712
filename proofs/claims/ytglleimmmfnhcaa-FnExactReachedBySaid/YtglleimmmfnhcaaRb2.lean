/- Walks: the letters that are reached, the program's way. -/
import Derived.Test.YtglleimmmfnhcaaRbM
import Derived.Test.YtglleimmmfnhcaaApply
import Derived.Test.YtglleimmmfnhcaaBox
import Derived.Test.YtglleimmmfnhcaaPow
import Derived.Deep.RegionLaw
namespace Go.Proofs.Ytglleimmmfnhcaa
open Go.RowKit Go.Maps
set_option maxRecDepth 20000

theorem abcd_ix2 {k : Nat} (h : k < 4) : (⟨#[97, 98, 99, 100]⟩ : ByteArray)[k]'h = lc k := by
  rcases (show k = 0 ∨ k = 1 ∨ k = 2 ∨ k = 3 by omega) with rfl | rfl | rfl | rfl <;> rfl
theorem img_in {xs : List ByteArray} (hx : substB xs = true) : ∀ l ∈ lss xs, ∀ c ∈ l, 97 ≤ c.toNat ∧ c.toNat - 97 < (lss xs).length := by
  intro l hl c hc
  obtain ⟨s, hs, rfl⟩ := List.mem_map.1 hl
  obtain ⟨_, _, h3, h4⟩ := (subst_parts hx).2.2 s hs
  obtain ⟨m, hm, rfl⟩ := List.getElem_of_mem hc
  have hm' : m < s.size := by rw [Lib.size_eq]; exact hm
  have a1 := inB_at h3 m hm'
  have a2 := (word_byte (word_letters h4) m hm').1
  have e : s[m] = s.data.toList[m] := by simp [ByteArray.getElem_eq_getElem_data]
  rw [← e, lss_len]; omega
theorem lss_img {xs : List ByteArray} {c : UInt8} (h : c.toNat - 97 < xs.length) : (lss xs).getD (c.toNat - 97) [] = (imgAt xs c).data.toList := by rw [lss_get h, imgAt_get h]
set_option maxHeartbeats 4000000 in
theorem implReachedBy_any (xs : List ByteArray) (va : Value) (t : ByteArray) (w : World) (ha : Row1 w w.heap.size va (xs.map .string)) (hs : ∀ s ∈ xs, s.size ≤ maxLen) (ht : t.size ≤ maxLen) :
    Calls Try.prog 23 #[.agg #[va], .string t] w fun e w' => e = .returned (.string ⟨(rbL xs t.data.toList).toArray⟩) ∧ Below w.heap.size w w' := by
  obtain ⟨i0, hi, hz0, hz1, hz2⟩ := info_parts info_byte
  have HI := Lib.hid hi; have HZ0 := Lib.hid hz0; have HZ1 := Lib.hid hz1; have HZ2 := Lib.hid hz2
  clear hi hz0 hz1 hz2
  obtain ⟨A, cp, rfl⟩ := ha.shape
  have s0 := Stands.start w 28 (.slice A xs.length cp)
  have HS0 := Lib.hid s0
  have HA := Lib.hid ha
  have HOK := Lib.hid (implSubstOk_any xs (.slice A xs.length cp) _ (s0.row ha) hs)
  have HHI := Lib.hid (fun W (S : Stands w 28 (.slice A xs.length cp) W) => hasImage_any xs _ t W (S.row HA.out) ht)
  have c0 := s0.box
  clear s0 ha hs
  cases hx : substB xs
  · have HF := Lib.hid (rb_no2 (t := t.data.toList) hx)
    go_enter Try.func23, Try.ntmps23
    go_wp2_with fail
    refine HOK.out.mono ?_
    rw [hx]
    rintro e w1 ⟨rfl, hb1⟩
    have S1 := Lib.hid (HS0.out.on hb1); clear hb1
    go_wp2_with fail
    go_ret
    exact ⟨by rw [HF.out] <;> rfl, S1.out.below⟩
  have h4x := (subst_parts hx).2.1
  have HX := Lib.hid hx; clear hx
  cases himg : imgB xs t.data.toList
  · have HF := Lib.hid (rb_no1 himg)
    have HM := Lib.hid himg; clear himg
    go_enter Try.func23, Try.ntmps23
    go_wp2_with fail
    refine HOK.out.mono ?_
    rw [HX.out]
    rintro e w1 ⟨rfl, hb1⟩
    have S1 := Lib.hid (HS0.out.on hb1); clear hb1
    have c1 := S1.out.box
    clear c0
    go_wp2_with fail
    refine (HHI.out _ S1.out).mono ?_
    rw [HM.out]
    rintro e w2 ⟨rfl, hb2⟩
    have S2 := Lib.hid (S1.out.on hb2); clear hb2
    go_wp2_with fail
    go_ret
    exact ⟨by rw [HF.out] <;> rfl, S2.out.below⟩
  obtain ⟨k, hkx, htl, hk4, hk⟩ := img_letter himg
  have hs1 : t.size = 1 := by rw [htl]; rfl
  have h0 : 0 < t.size := by omega
  have h0i : (0 : Int) < (t.size : Int) := by omega
  have HC0 := Lib.hid (show t[0] = lc k by subst htl; rfl)
  have HF := Lib.hid (rb_yes himg HX.out)
  rw [show (letK xs t.data.toList).toNat = k by rw [hk]; rfl] at HF
  have HM := Lib.hid himg
  obtain ⟨c, hc⟩ : ∃ c, c = t[0] := ⟨_, rfl⟩
  rw [← hc] at HC0
  have HCC := Lib.hid hc
  clear himg htl hk hc
  go_enter Try.func23, Try.ntmps23
  go_wp2_with fail
  refine HOK.out.mono ?_
  rw [HX.out]
  rintro e w1 ⟨rfl, hb1⟩
  have S1 := Lib.hid (HS0.out.on hb1); clear hb1
  have c1 := S1.out.box
  clear c0
  go_wp2_with fail
  refine (HHI.out _ S1.out).mono ?_
  rw [HM.out]
  rintro e w2 ⟨rfl, hb2⟩
  have S2 := Lib.hid (S1.out.on hb2); clear hb2 c1
  go_wp2_with fail
  obtain ⟨wA, hrA, hmA, hgA⟩ := ((SetM.made w2).below (bdrew _)).put (by unfold maxLen; omega) t[0]
  obtain ⟨wB, hrB, hmB, hgB⟩ := (((SetM.made w2).below (bnew _ (.cells #[.int .u8 (t[0].toNat : Int)] 5))).below (bdrew _)).put (by unfold maxLen; omega) t[0]
  have hmk := SetM.made (w2.alloc (.cells #[.int .u8 (t[0].toNat : Int)] 5))
  rw [World.size_alloc] at hmk
  obtain ⟨wC, hrC, hmC, hgC⟩ := (hmk.below (bdrew _)).put (by unfold maxLen; omega) t[0]
  clear hmk
  have HmA := Lib.hid hmA; have HmB := Lib.hid hmB; have HmC := Lib.hid hmC
  have HgA := Lib.hid hgA; have HgB := Lib.hid hgB; have HgC := Lib.hid hgC
  clear hmA hmB hmC hgA hgB hgC
  have FD := Lib.hid (show Found (lss xs) k (fun j => false || j == t[0].toNat) [t[0]] from by rw [← HCC.out, HC0.out]; exact Found.first (by rw [lss_len]; exact h4x) (by rw [lss_len]; exact hkx))
  have HLL := Lib.hid (lss_len xs)
  have hmm := @run_makeMap Try.prog
  go_region
  · have hsz := HgA.out.size
    have h2s := S2.out.size
    have SW := Lib.hid ((stands_grown (S2.out.alloc (.map #[] 0)).drew HgA.out (fun g e => by cases e; exact S2.out.size)).alloc (.cells #[.int .u8 (t[0].toNat : Int)] 5))
    have QW := Lib.hid (Qu.own (bm := w2.heap.size) (base := w.heap.size + 1) (l := [t[0]]) (World.ownsRow_lit (base := wA.heap.size) (e := 5) (size := 1) wA #[.int .u8 (t[0].toNat : Int)] 1 (Nat.le_refl _) (by unfold maxLen; omega) rfl) rfl (by omega) (by simp at hsz; omega) (fun g e => by have e2 : wA.heap.size = g := Option.some.inj e; simp at hsz; omega))
    have MW := Lib.hid (HmA.out.below (bnew wA (.cells #[.int .u8 (t[0].toNat : Int)] 5)))
    have HBM := Lib.hid h2s
    clear hrA hrB hrC hmm
    go_wp2_with fail
    go_loopw [6] (fun v wr => ∃ (l : List UInt8) (S : Nat → Bool) (n : Nat), Qu wr (w.heap.size + 1) w2.heap.size v l ∧ SetM wr w2.heap.size n S ∧ n + unseen S xs.length ≤ 10 ∧ Found (lss xs) k S l ∧ l.length + 2 * unseen S xs.length ≤ 20 ∧ Stands w 28 (.slice A xs.length cp) wr) (fun v wr => quLen v + 2 * leftW wr w2.heap.size xs.length)
    case atStart => exact ⟨_, _, 1, QW.out, MW.out, by have := unseen_top (fun j => false || j == t[0].toNat) xs.length; omega, FD.out, by have := unseen_top (fun j => false || j == t[0].toNat) xs.length; simp only [List.length_singleton]; omega, SW.out⟩
    case round =>
      clear QW MW SW FD
      obtain ⟨wo, rfl⟩ : ∃ wo, wo = wr := ⟨_, rfl⟩
      obtain ⟨l, S, n, hq, hm, hn, hf, hbd, hst⟩ := hrel
      have HM5 := Lib.hid hm; have HFO := Lib.hid hf; have S5 := Lib.hid hst; have HN := Lib.hid hn
      obtain ⟨g, off, cap, rfl⟩ := hq.len
      have HQ := Lib.hid hq
      clear hm hn hf hst hq
      cases l with
      | nil =>
        have HNM := Lib.hid ((HFO.out.names (img_in HX.out) (by rw [HLL.out]; exact hkx) (by rw [HLL.out]; exact h4x)).trans HF.out.symm)
        rw [List.length_nil]
        go_wp2_with fail
        go_loop [9, 59] (fun v i => ∃ (q : Nat) (out : ByteArray), q ≤ 4 ∧ out.data.toList = namesOf (fun j => S (97 + j)) q ∧ v = .string out ∧ i = .int .i64 q) (fun _ i => 4 - (intOf i).toNat)
        case atStart => exact ⟨0, ⟨#[]⟩, Nat.zero_le _, rfl, rfl, rfl⟩
        case round =>
          obtain ⟨q, out, hq, ho, rfl, rfl⟩ := hrel
          have hsz : out.size ≤ 4 := by have := names_len (fun j => S (97 + j)) q; rw [Lib.size_eq, ho]; omega
          have HOUT := Lib.hid ho; clear ho
          by_cases hql : q < 4
          · have e1 := abcd_at (k := q) (by omega)
            have e2 := abcd_ix2 (k := q) hql
            have es := ltr_size q
            have hl1 := HM5.out.look (lc q)
            rw [show S (lc q).toNat = S (97 + q) by rw [lc_nat hql]] at hl1
            have HNS := Lib.hid (names_step (fun j => S (97 + j)) q)
            cases hin : S (97 + q)
            · rw [hin] at hl1
              simp only [hin] at HNS
              clear hin
              go_wp2_with fail
              go_round
              case rel => exact ⟨q + 1, out, by omega, by rw [HNS.out, HOUT.out]; simp, rfl, by go_num⟩
              case measure => simp [intOf]; omega
            · rw [hin] at hl1
              simp only [hin] at HNS
              clear hin
              go_wp2_with fail
              go_round
              case rel => exact ⟨q + 1, _, by omega, by rw [data_append, HNS.out, HOUT.out, ltr_data]; rfl, rfl, by go_num⟩
              case measure => simp [intOf]; omega
          · obtain rfl : q = 4 := by omega
            have HM4 := Lib.hid (mk_list out (HOUT.out.trans HNM.out))
            go_wp2_with fail
            go_ret
            exact ⟨by rw [HM4.out] <;> rfl, S5.out.below⟩
      | cons c0 l =>
        obtain ⟨p1, p2, U⟩ := HFO.out.pop (by rw [HLL.out]; exact h4x)
        have HU := Lib.hid U
        obtain ⟨hln, hcap, hcell, q1, q2⟩ := Qu.pop HQ.out
        have HQ1 := Lib.hid q1; have HQ2 := Lib.hid q2
        have HBD := Lib.hid (show l.length + 1 + 2 * unseen S xs.length ≤ 20 from by rw [List.length_cons] at hbd; exact hbd)
        rw [HLL.out] at p2
        rw [List.length_cons]
        have c5 := S5.out.box
        have HIM := Lib.hid (fun W hR => image_any xs (.slice A xs.length cp) c0 W hR h4x (by omega) (by omega))
        obtain ⟨hz1, hz8, hwi⟩ := imgAt_ok HX.out (c := c0) p2
        have HSL := Lib.hid (lss_img p2)
        have HWI := Lib.hid hwi
        have HL0 := Lib.hid (leftW_is HM5.out h4x)
        obtain ⟨s, hs⟩ : ∃ s, s = imgAt xs c0 := ⟨_, rfl⟩
        rw [← hs] at HIM hz1 hz8 HSL HWI
        clear hs hwi q1 q2 U hbd hln
        go_wp2_with fail
        go_region_with (go_at_call 60; refine (HIM.out _ (S5.out.drew.row HA.out)).mono ?_; rintro e w6 ⟨rfl, hb6⟩; have HB6 := Lib.hid (bthen (bdrew wo) hb6); clear hb6)
        all_goals
          have S6 := Lib.hid (S5.out.on HB6.out)
          have M6 := Lib.hid (HM5.out.below HB6.out)
          by_cases hc1 : cap = 1
          · have HQ6 := Lib.hid ((HQ2.out hc1).below HB6.out)
            subst hc1
            obtain rfl : l = [] := List.eq_nil_of_length_eq_zero (by omega)
            go_wp2_with fail
            go_loopw [6, 39] (fun v i wr => ∃ (m : Nat) (l2 : List UInt8) (S2 : Nat → Bool) (n2 : Nat), m ≤ s.size ∧ i = .int .i64 m ∧ Qu wr (w.heap.size + 1) w2.heap.size v l2 ∧ SetM wr w2.heap.size n2 S2 ∧ n2 + unseen S2 xs.length ≤ 10 ∧ Under (lss xs) k (c0.toNat - 97) S2 l2 (s.data.toList.take m) ∧ l2.length + 2 * unseen S2 xs.length ≤ 0 + 2 * unseen S xs.length ∧ Stands w 28 (.slice A xs.length cp) wr) (fun _ i _ => s.size - (intOf i).toNat)
            case atStart => exact ⟨0, [], S, n, Nat.zero_le _, rfl, HQ6.out, M6.out, HN.out, HU.out, Nat.le_refl _, S6.out⟩
            case round =>
              clear HQ6 S6 M6
              obtain ⟨wi, rfl⟩ : ∃ wi, wi = wr := ⟨_, rfl⟩
              obtain ⟨m, l2, S2, n2, hm, rfl, hq, hmm2, hn2, hu, hle, hst⟩ := hrel
              have HQ7 := Lib.hid hq; have HM7 := Lib.hid hmm2; have HN7 := Lib.hid hn2; have HU7 := Lib.hid hu; have HLE := Lib.hid hle; have S7 := Lib.hid hst
              clear hq hmm2 hn2 hu hle hst
              by_cases hml : m < s.size
              · obtain ⟨b1, b2, b3⟩ := wordIn_byte HWI.out m hml
                have hl1 := HM7.out.look s[m]
                have HTK := Lib.hid (take_snoc s m hml)
                cases hin : S2 s[m].toNat
                · have HUL := Lib.hid (unseen_lt (S := S2) (S' := fun j => S2 j || j == s[m].toNat) (j := s[m].toNat - 97) (N := xs.length) (by rw [show 97 + (s[m].toNat - 97) = s[m].toNat by omega]; exact hin) (by rw [show 97 + (s[m].toNat - 97) = s[m].toNat by omega]; simp) (by omega) (fun j _ hj => by rw [hj]; rfl))
                  rw [hin] at hl1
                  obtain ⟨w8, hr8, hm8, hg8⟩ := HM7.out.put (by unfold maxLen; have := HN7.out; omega) s[m]
                  have HM8 := Lib.hid hm8
                  have HQ8 := Lib.hid (HQ7.out.kept hg8 (fun g e => by cases e; rfl))
                  have S8 := Lib.hid (stands_grown S7.out hg8 (fun g e => by cases e; exact HBM.out))
                  have HPU := Lib.hid (HU7.out.push (c := s[m]) (by rw [HSL.out]; simp [ByteArray.getElem_eq_getElem_data]) (by omega) (by rw [HLL.out]; omega) (by rw [HLL.out]; exact h4x))
                  clear hm8 hg8 hin
                  go_wp2_with (at_builtin; refine wpList_append_qu rfl _ _ rfl i0 HI.out HZ0.out HZ1.out HZ2.out (w.heap.size + 1) w2.heap.size _ l2 rfl (HQ8.out.below (bnew _ _)) (by have := S8.out.size; simp; omega) (by have := HM8.out.lt; simp; omega) (by have := HLE.out; have := HBD.out; omega) s[m] ⟨_, 0, none⟩ 1 rfl (cell_one_new _ _ _) ?_)
                  intro v9 w9 row hq9 hg9 hr9
                  have HQ9 := Lib.hid hq9; have HG9 := Lib.hid hg9; have HR9 := Lib.hid hr9
                  clear hq9 hg9 hr9
                  go_wp2_with fail
                  go_roundw
                  case rel => exact ⟨m + 1, _, _, n2 + 1, by omega, by go_num, HQ9.out, (HM8.out.below (bnew _ _)).kept HG9.out (fun e => (HR9.out _ e.symm).2 rfl), by have := HUL.out; have := HN7.out; omega, by rw [HTK.out]; exact HPU.out, by have := HUL.out; have := HLE.out; rw [List.length_append]; simp; omega, stands_grown (S8.out.alloc _) HG9.out (fun g e => (HR9.out g e).1)⟩
                  case measure => simp [intOf]; omega
                · have HSE := Lib.hid (HU7.out.seen hin)
                  rw [hin] at hl1
                  clear hin
                  go_wp2_with fail
                  go_roundw
                  case rel => exact ⟨m + 1, l2, S2, n2, by omega, by go_num, HQ7.out, HM7.out, HN7.out, by rw [HTK.out]; exact HSE.out, HLE.out, S7.out⟩
                  case measure => simp [intOf]; omega
              · obtain rfl : m = s.size := by omega
                have HFN := Lib.hid (show Found (lss xs) k S2 l2 from by have h := HU7.out; rw [take_all s s.size (Nat.le_refl _), ← HSL.out] at h; exact h.leave)
                have HQL := Lib.hid HQ7.out.quLen
                have HL1 := Lib.hid (leftW_is HM7.out h4x)
                go_wp2_with fail
                go_roundw
                case rel => exact ⟨l2, S2, n2, HQ7.out, HM7.out, HN7.out, HFN.out, by have := HLE.out; have := HBD.out; omega, S7.out⟩
                case measure =>
                  rw [HQL.out, HL1.out, HL0.out]
                  show l2.length + 2 * unseen S2 xs.length < 0 + 1 + 2 * unseen S xs.length
                  have := HLE.out
                  omega
          · have HQ6 := Lib.hid (HQ1.out.below HB6.out)
            go_wp2_with fail
            go_loopw [6, 39] (fun v i wr => ∃ (m : Nat) (l2 : List UInt8) (S2 : Nat → Bool) (n2 : Nat), m ≤ s.size ∧ i = .int .i64 m ∧ Qu wr (w.heap.size + 1) w2.heap.size v l2 ∧ SetM wr w2.heap.size n2 S2 ∧ n2 + unseen S2 xs.length ≤ 10 ∧ Under (lss xs) k (c0.toNat - 97) S2 l2 (s.data.toList.take m) ∧ l2.length + 2 * unseen S2 xs.length ≤ l.length + 2 * unseen S xs.length ∧ Stands w 28 (.slice A xs.length cp) wr) (fun _ i _ => s.size - (intOf i).toNat)
            case atStart => exact ⟨0, l, S, n, Nat.zero_le _, rfl, HQ6.out, M6.out, HN.out, HU.out, Nat.le_refl _, S6.out⟩
            case round =>
              clear HQ6 S6 M6
              obtain ⟨wi, rfl⟩ : ∃ wi, wi = wr := ⟨_, rfl⟩
              obtain ⟨m, l2, S2, n2, hm, rfl, hq, hmm2, hn2, hu, hle, hst⟩ := hrel
              have HQ7 := Lib.hid hq; have HM7 := Lib.hid hmm2; have HN7 := Lib.hid hn2; have HU7 := Lib.hid hu; have HLE := Lib.hid hle; have S7 := Lib.hid hst
              clear hq hmm2 hn2 hu hle hst
              by_cases hml : m < s.size
              · obtain ⟨b1, b2, b3⟩ := wordIn_byte HWI.out m hml
                have hl1 := HM7.out.look s[m]
                have HTK := Lib.hid (take_snoc s m hml)
                cases hin : S2 s[m].toNat
                · have HUL := Lib.hid (unseen_lt (S := S2) (S' := fun j => S2 j || j == s[m].toNat) (j := s[m].toNat - 97) (N := xs.length) (by rw [show 97 + (s[m].toNat - 97) = s[m].toNat by omega]; exact hin) (by rw [show 97 + (s[m].toNat - 97) = s[m].toNat by omega]; simp) (by omega) (fun j _ hj => by rw [hj]; rfl))
                  rw [hin] at hl1
                  obtain ⟨w8, hr8, hm8, hg8⟩ := HM7.out.put (by unfold maxLen; have := HN7.out; omega) s[m]
                  have HM8 := Lib.hid hm8
                  have HQ8 := Lib.hid (HQ7.out.kept hg8 (fun g e => by cases e; rfl))
                  have S8 := Lib.hid (stands_grown S7.out hg8 (fun g e => by cases e; exact HBM.out))
                  have HPU := Lib.hid (HU7.out.push (c := s[m]) (by rw [HSL.out]; simp [ByteArray.getElem_eq_getElem_data]) (by omega) (by rw [HLL.out]; omega) (by rw [HLL.out]; exact h4x))
                  clear hm8 hg8 hin
                  go_wp2_with (at_builtin; refine wpList_append_qu rfl _ _ rfl i0 HI.out HZ0.out HZ1.out HZ2.out (w.heap.size + 1) w2.heap.size _ l2 rfl (HQ8.out.below (bnew _ _)) (by have := S8.out.size; simp; omega) (by have := HM8.out.lt; simp; omega) (by have := HLE.out; have := HBD.out; omega) s[m] ⟨_, 0, none⟩ 1 rfl (cell_one_new _ _ _) ?_)
                  intro v9 w9 row hq9 hg9 hr9
                  have HQ9 := Lib.hid hq9; have HG9 := Lib.hid hg9; have HR9 := Lib.hid hr9
                  clear hq9 hg9 hr9
                  go_wp2_with fail
                  go_roundw
                  case rel => exact ⟨m + 1, _, _, n2 + 1, by omega, by go_num, HQ9.out, (HM8.out.below (bnew _ _)).kept HG9.out (fun e => (HR9.out _ e.symm).2 rfl), by have := HUL.out; have := HN7.out; omega, by rw [HTK.out]; exact HPU.out, by have := HUL.out; have := HLE.out; rw [List.length_append]; simp; omega, stands_grown (S8.out.alloc _) HG9.out (fun g e => (HR9.out g e).1)⟩
                  case measure => simp [intOf]; omega
                · have HSE := Lib.hid (HU7.out.seen hin)
                  rw [hin] at hl1
                  clear hin
                  go_wp2_with fail
                  go_roundw
                  case rel => exact ⟨m + 1, l2, S2, n2, by omega, by go_num, HQ7.out, HM7.out, HN7.out, by rw [HTK.out]; exact HSE.out, HLE.out, S7.out⟩
                  case measure => simp [intOf]; omega
              · obtain rfl : m = s.size := by omega
                have HFN := Lib.hid (show Found (lss xs) k S2 l2 from by have h := HU7.out; rw [take_all s s.size (Nat.le_refl _), ← HSL.out] at h; exact h.leave)
                have HQL := Lib.hid HQ7.out.quLen
                have HL1 := Lib.hid (leftW_is HM7.out h4x)
                go_wp2_with fail
                go_roundw
                case rel => exact ⟨l2, S2, n2, HQ7.out, HM7.out, HN7.out, HFN.out, by have := HLE.out; have := HBD.out; omega, S7.out⟩
                case measure =>
                  rw [HQL.out, HL1.out, HL0.out]
                  show l2.length + 2 * unseen S2 xs.length < (l.length + 1) + 2 * unseen S xs.length
                  have := HLE.out
                  omega
  · have h2s := S2.out.size
    have SW := Lib.hid (stands_grown ((S2.out.alloc (.map #[] 0)).alloc (.cells #[.int .u8 (t[0].toNat : Int)] 5)).drew HgB.out (fun g e => by cases e; exact S2.out.size))
    have how := World.ownsRow_lit (base := (w2.alloc (.map #[] 0)).heap.size) (e := 5) (size := 1) (w2.alloc (.map #[] 0)) #[.int .u8 (t[0].toNat : Int)] 1 (Nat.le_refl _) (by unfold maxLen; omega) rfl
    rw [World.size_alloc] at how
    have QW := Lib.hid (((Qu.own (bm := w2.heap.size) (base := w.heap.size + 1) (l := [t[0]]) how rfl (by omega) (by omega) (fun g e => by have e2 : w2.heap.size + 1 = g := Option.some.inj e; omega)).below (bdrew _)).kept HgB.out (fun g e => by cases e; rfl))
    have MW := Lib.hid HmB.out
    have HBM := Lib.hid h2s
    clear how
    clear hrA hrB hrC hmm
    go_wp2_with fail
    go_loopw [6] (fun v wr => ∃ (l : List UInt8) (S : Nat → Bool) (n : Nat), Qu wr (w.heap.size + 1) w2.heap.size v l ∧ SetM wr w2.heap.size n S ∧ n + unseen S xs.length ≤ 10 ∧ Found (lss xs) k S l ∧ l.length + 2 * unseen S xs.length ≤ 20 ∧ Stands w 28 (.slice A xs.length cp) wr) (fun v wr => quLen v + 2 * leftW wr w2.heap.size xs.length)
    case atStart => exact ⟨_, _, 1, QW.out, MW.out, by have := unseen_top (fun j => false || j == t[0].toNat) xs.length; omega, FD.out, by have := unseen_top (fun j => false || j == t[0].toNat) xs.length; simp only [List.length_singleton]; omega, SW.out⟩
    case round =>
      clear QW MW SW FD
      obtain ⟨wo, rfl⟩ : ∃ wo, wo = wr := ⟨_, rfl⟩
      obtain ⟨l, S, n, hq, hm, hn, hf, hbd, hst⟩ := hrel
      have HM5 := Lib.hid hm; have HFO := Lib.hid hf; have S5 := Lib.hid hst; have HN := Lib.hid hn
      obtain ⟨g, off, cap, rfl⟩ := hq.len
      have HQ := Lib.hid hq
      clear hm hn hf hst hq
      cases l with
      | nil =>
        have HNM := Lib.hid ((HFO.out.names (img_in HX.out) (by rw [HLL.out]; exact hkx) (by rw [HLL.out]; exact h4x)).trans HF.out.symm)
        rw [List.length_nil]
        go_wp2_with fail
        go_loop [9, 59] (fun v i => ∃ (q : Nat) (out : ByteArray), q ≤ 4 ∧ out.data.toList = namesOf (fun j => S (97 + j)) q ∧ v = .string out ∧ i = .int .i64 q) (fun _ i => 4 - (intOf i).toNat)
        case atStart => exact ⟨0, ⟨#[]⟩, Nat.zero_le _, rfl, rfl, rfl⟩
        case round =>
          obtain ⟨q, out, hq, ho, rfl, rfl⟩ := hrel
          have hsz : out.size ≤ 4 := by have := names_len (fun j => S (97 + j)) q; rw [Lib.size_eq, ho]; omega
          have HOUT := Lib.hid ho; clear ho
          by_cases hql : q < 4
          · have e1 := abcd_at (k := q) (by omega)
            have e2 := abcd_ix2 (k := q) hql
            have es := ltr_size q
            have hl1 := HM5.out.look (lc q)
            rw [show S (lc q).toNat = S (97 + q) by rw [lc_nat hql]] at hl1
            have HNS := Lib.hid (names_step (fun j => S (97 + j)) q)
            cases hin : S (97 + q)
            · rw [hin] at hl1
              simp only [hin] at HNS
              clear hin
              go_wp2_with fail
              go_round
              case rel => exact ⟨q + 1, out, by omega, by rw [HNS.out, HOUT.out]; simp, rfl, by go_num⟩
              case measure => simp [intOf]; omega
            · rw [hin] at hl1
              simp only [hin] at HNS
              clear hin
              go_wp2_with fail
              go_round
              case rel => exact ⟨q + 1, _, by omega, by rw [data_append, HNS.out, HOUT.out, ltr_data]; rfl, rfl, by go_num⟩
              case measure => simp [intOf]; omega
          · obtain rfl : q = 4 := by omega
            have HM4 := Lib.hid (mk_list out (HOUT.out.trans HNM.out))
            go_wp2_with fail
            go_ret
            exact ⟨by rw [HM4.out] <;> rfl, S5.out.below⟩
      | cons c0 l =>
        obtain ⟨p1, p2, U⟩ := HFO.out.pop (by rw [HLL.out]; exact h4x)
        have HU := Lib.hid U
        obtain ⟨hln, hcap, hcell, q1, q2⟩ := Qu.pop HQ.out
        have HQ1 := Lib.hid q1; have HQ2 := Lib.hid q2
        have HBD := Lib.hid (show l.length + 1 + 2 * unseen S xs.length ≤ 20 from by rw [List.length_cons] at hbd; exact hbd)
        rw [HLL.out] at p2
        rw [List.length_cons]
        have c5 := S5.out.box
        have HIM := Lib.hid (fun W hR => image_any xs (.slice A xs.length cp) c0 W hR h4x (by omega) (by omega))
        obtain ⟨hz1, hz8, hwi⟩ := imgAt_ok HX.out (c := c0) p2
        have HSL := Lib.hid (lss_img p2)
        have HWI := Lib.hid hwi
        have HL0 := Lib.hid (leftW_is HM5.out h4x)
        obtain ⟨s, hs⟩ : ∃ s, s = imgAt xs c0 := ⟨_, rfl⟩
        rw [← hs] at HIM hz1 hz8 HSL HWI
        clear hs hwi q1 q2 U hbd hln
        go_wp2_with fail
        go_region_with (go_at_call 60; refine (HIM.out _ (S5.out.drew.row HA.out)).mono ?_; rintro e w6 ⟨rfl, hb6⟩; have HB6 := Lib.hid (bthen (bdrew wo) hb6); clear hb6)
        all_goals
          have S6 := Lib.hid (S5.out.on HB6.out)
          have M6 := Lib.hid (HM5.out.below HB6.out)
          by_cases hc1 : cap = 1
          · have HQ6 := Lib.hid ((HQ2.out hc1).below HB6.out)
            subst hc1
            obtain rfl : l = [] := List.eq_nil_of_length_eq_zero (by omega)
            go_wp2_with fail
            go_loopw [6, 39] (fun v i wr => ∃ (m : Nat) (l2 : List UInt8) (S2 : Nat → Bool) (n2 : Nat), m ≤ s.size ∧ i = .int .i64 m ∧ Qu wr (w.heap.size + 1) w2.heap.size v l2 ∧ SetM wr w2.heap.size n2 S2 ∧ n2 + unseen S2 xs.length ≤ 10 ∧ Under (lss xs) k (c0.toNat - 97) S2 l2 (s.data.toList.take m) ∧ l2.length + 2 * unseen S2 xs.length ≤ 0 + 2 * unseen S xs.length ∧ Stands w 28 (.slice A xs.length cp) wr) (fun _ i _ => s.size - (intOf i).toNat)
            case atStart => exact ⟨0, [], S, n, Nat.zero_le _, rfl, HQ6.out, M6.out, HN.out, HU.out, Nat.le_refl _, S6.out⟩
            case round =>
              clear HQ6 S6 M6
              obtain ⟨wi, rfl⟩ : ∃ wi, wi = wr := ⟨_, rfl⟩
              obtain ⟨m, l2, S2, n2, hm, rfl, hq, hmm2, hn2, hu, hle, hst⟩ := hrel
              have HQ7 := Lib.hid hq; have HM7 := Lib.hid hmm2; have HN7 := Lib.hid hn2; have HU7 := Lib.hid hu; have HLE := Lib.hid hle; have S7 := Lib.hid hst
              clear hq hmm2 hn2 hu hle hst
              by_cases hml : m < s.size
              · obtain ⟨b1, b2, b3⟩ := wordIn_byte HWI.out m hml
                have hl1 := HM7.out.look s[m]
                have HTK := Lib.hid (take_snoc s m hml)
                cases hin : S2 s[m].toNat
                · have HUL := Lib.hid (unseen_lt (S := S2) (S' := fun j => S2 j || j == s[m].toNat) (j := s[m].toNat - 97) (N := xs.length) (by rw [show 97 + (s[m].toNat - 97) = s[m].toNat by omega]; exact hin) (by rw [show 97 + (s[m].toNat - 97) = s[m].toNat by omega]; simp) (by omega) (fun j _ hj => by rw [hj]; rfl))
                  rw [hin] at hl1
                  obtain ⟨w8, hr8, hm8, hg8⟩ := HM7.out.put (by unfold maxLen; have := HN7.out; omega) s[m]
                  have HM8 := Lib.hid hm8
                  have HQ8 := Lib.hid (HQ7.out.kept hg8 (fun g e => by cases e; rfl))
                  have S8 := Lib.hid (stands_grown S7.out hg8 (fun g e => by cases e; exact HBM.out))
                  have HPU := Lib.hid (HU7.out.push (c := s[m]) (by rw [HSL.out]; simp [ByteArray.getElem_eq_getElem_data]) (by omega) (by rw [HLL.out]; omega) (by rw [HLL.out]; exact h4x))
                  clear hm8 hg8 hin
                  go_wp2_with (at_builtin; refine wpList_append_qu rfl _ _ rfl i0 HI.out HZ0.out HZ1.out HZ2.out (w.heap.size + 1) w2.heap.size _ l2 rfl (HQ8.out.below (bnew _ _)) (by have := S8.out.size; simp; omega) (by have := HM8.out.lt; simp; omega) (by have := HLE.out; have := HBD.out; omega) s[m] ⟨_, 0, none⟩ 1 rfl (cell_one_new _ _ _) ?_)
                  intro v9 w9 row hq9 hg9 hr9
                  have HQ9 := Lib.hid hq9; have HG9 := Lib.hid hg9; have HR9 := Lib.hid hr9
                  clear hq9 hg9 hr9
                  go_wp2_with fail
                  go_roundw
                  case rel => exact ⟨m + 1, _, _, n2 + 1, by omega, by go_num, HQ9.out, (HM8.out.below (bnew _ _)).kept HG9.out (fun e => (HR9.out _ e.symm).2 rfl), by have := HUL.out; have := HN7.out; omega, by rw [HTK.out]; exact HPU.out, by have := HUL.out; have := HLE.out; rw [List.length_append]; simp; omega, stands_grown (S8.out.alloc _) HG9.out (fun g e => (HR9.out g e).1)⟩
                  case measure => simp [intOf]; omega
                · have HSE := Lib.hid (HU7.out.seen hin)
                  rw [hin] at hl1
                  clear hin
                  go_wp2_with fail
                  go_roundw
                  case rel => exact ⟨m + 1, l2, S2, n2, by omega, by go_num, HQ7.out, HM7.out, HN7.out, by rw [HTK.out]; exact HSE.out, HLE.out, S7.out⟩
                  case measure => simp [intOf]; omega
              · obtain rfl : m = s.size := by omega
                have HFN := Lib.hid (show Found (lss xs) k S2 l2 from by have h := HU7.out; rw [take_all s s.size (Nat.le_refl _), ← HSL.out] at h; exact h.leave)
                have HQL := Lib.hid HQ7.out.quLen
                have HL1 := Lib.hid (leftW_is HM7.out h4x)
                go_wp2_with fail
                go_roundw
                case rel => exact ⟨l2, S2, n2, HQ7.out, HM7.out, HN7.out, HFN.out, by have := HLE.out; have := HBD.out; omega, S7.out⟩
                case measure =>
                  rw [HQL.out, HL1.out, HL0.out]
                  show l2.length + 2 * unseen S2 xs.length < 0 + 1 + 2 * unseen S xs.length
                  have := HLE.out
                  omega
          · have HQ6 := Lib.hid (HQ1.out.below HB6.out)
            go_wp2_with fail
            go_loopw [6, 39] (fun v i wr => ∃ (m : Nat) (l2 : List UInt8) (S2 : Nat → Bool) (n2 : Nat), m ≤ s.size ∧ i = .int .i64 m ∧ Qu wr (w.heap.size + 1) w2.heap.size v l2 ∧ SetM wr w2.heap.size n2 S2 ∧ n2 + unseen S2 xs.length ≤ 10 ∧ Under (lss xs) k (c0.toNat - 97) S2 l2 (s.data.toList.take m) ∧ l2.length + 2 * unseen S2 xs.length ≤ l.length + 2 * unseen S xs.length ∧ Stands w 28 (.slice A xs.length cp) wr) (fun _ i _ => s.size - (intOf i).toNat)
            case atStart => exact ⟨0, l, S, n, Nat.zero_le _, rfl, HQ6.out, M6.out, HN.out, HU.out, Nat.le_refl _, S6.out⟩
            case round =>
              clear HQ6 S6 M6
              obtain ⟨wi, rfl⟩ : ∃ wi, wi = wr := ⟨_, rfl⟩
              obtain ⟨m, l2, S2, n2, hm, rfl, hq, hmm2, hn2, hu, hle, hst⟩ := hrel
              have HQ7 := Lib.hid hq; have HM7 := Lib.hid hmm2; have HN7 := Lib.hid hn2; have HU7 := Lib.hid hu; have HLE := Lib.hid hle; have S7 := Lib.hid hst
              clear hq hmm2 hn2 hu hle hst
              by_cases hml : m < s.size
              · obtain ⟨b1, b2, b3⟩ := wordIn_byte HWI.out m hml
                have hl1 := HM7.out.look s[m]
                have HTK := Lib.hid (take_snoc s m hml)
                cases hin : S2 s[m].toNat
                · have HUL := Lib.hid (unseen_lt (S := S2) (S' := fun j => S2 j || j == s[m].toNat) (j := s[m].toNat - 97) (N := xs.length) (by rw [show 97 + (s[m].toNat - 97) = s[m].toNat by omega]; exact hin) (by rw [show 97 + (s[m].toNat - 97) = s[m].toNat by omega]; simp) (by omega) (fun j _ hj => by rw [hj]; rfl))
                  rw [hin] at hl1
                  obtain ⟨w8, hr8, hm8, hg8⟩ := HM7.out.put (by unfold maxLen; have := HN7.out; omega) s[m]
                  have HM8 := Lib.hid hm8
                  have HQ8 := Lib.hid (HQ7.out.kept hg8 (fun g e => by cases e; rfl))
                  have S8 := Lib.hid (stands_grown S7.out hg8 (fun g e => by cases e; exact HBM.out))
                  have HPU := Lib.hid (HU7.out.push (c := s[m]) (by rw [HSL.out]; simp [ByteArray.getElem_eq_getElem_data]) (by omega) (by rw [HLL.out]; omega) (by rw [HLL.out]; exact h4x))
                  clear hm8 hg8 hin
                  go_wp2_with (at_builtin; refine wpList_append_qu rfl _ _ rfl i0 HI.out HZ0.out HZ1.out HZ2.out (w.heap.size + 1) w2.heap.size _ l2 rfl (HQ8.out.below (bnew _ _)) (by have := S8.out.size; simp; omega) (by have := HM8.out.lt; simp; omega) (by have := HLE.out; have := HBD.out; omega) s[m] ⟨_, 0, none⟩ 1 rfl (cell_one_new _ _ _) ?_)
                  intro v9 w9 row hq9 hg9 hr9
                  have HQ9 := Lib.hid hq9; have HG9 := Lib.hid hg9; have HR9 := Lib.hid hr9
                  clear hq9 hg9 hr9
                  go_wp2_with fail
                  go_roundw
                  case rel => exact ⟨m + 1, _, _, n2 + 1, by omega, by go_num, HQ9.out, (HM8.out.below (bnew _ _)).kept HG9.out (fun e => (HR9.out _ e.symm).2 rfl), by have := HUL.out; have := HN7.out; omega, by rw [HTK.out]; exact HPU.out, by have := HUL.out; have := HLE.out; rw [List.length_append]; simp; omega, stands_grown (S8.out.alloc _) HG9.out (fun g e => (HR9.out g e).1)⟩
                  case measure => simp [intOf]; omega
                · have HSE := Lib.hid (HU7.out.seen hin)
                  rw [hin] at hl1
                  clear hin
                  go_wp2_with fail
                  go_roundw
                  case rel => exact ⟨m + 1, l2, S2, n2, by omega, by go_num, HQ7.out, HM7.out, HN7.out, by rw [HTK.out]; exact HSE.out, HLE.out, S7.out⟩
                  case measure => simp [intOf]; omega
              · obtain rfl : m = s.size := by omega
                have HFN := Lib.hid (show Found (lss xs) k S2 l2 from by have h := HU7.out; rw [take_all s s.size (Nat.le_refl _), ← HSL.out] at h; exact h.leave)
                have HQL := Lib.hid HQ7.out.quLen
                have HL1 := Lib.hid (leftW_is HM7.out h4x)
                go_wp2_with fail
                go_roundw
                case rel => exact ⟨l2, S2, n2, HQ7.out, HM7.out, HN7.out, HFN.out, by have := HLE.out; have := HBD.out; omega, S7.out⟩
                case measure =>
                  rw [HQL.out, HL1.out, HL0.out]
                  show l2.length + 2 * unseen S2 xs.length < (l.length + 1) + 2 * unseen S xs.length
                  have := HLE.out
                  omega
  · have h2s := S2.out.size
    have SW := Lib.hid (stands_grown ((S2.out.alloc (.cells #[.int .u8 (t[0].toNat : Int)] 5)).alloc (.map #[] 0)).drew HgC.out (fun g e => by cases e; omega))
    have QW := Lib.hid ((((Qu.own (bm := w2.heap.size + 1) (base := w.heap.size + 1) (l := [t[0]]) (World.ownsRow_lit (base := w2.heap.size) (e := 5) (size := 1) w2 #[.int .u8 (t[0].toNat : Int)] 1 (Nat.le_refl _) (by unfold maxLen; omega) rfl) rfl (by omega) (by omega) (fun g e => by have e2 : w2.heap.size = g := Option.some.inj e; omega)).below (bnew _ (.map #[] 0))).below (bdrew _)).kept HgC.out (fun g e => by cases e; rfl))
    have MW := Lib.hid HmC.out
    have HBM := Lib.hid (show w.heap.size + 1 ≤ w2.heap.size + 1 by omega)
    clear hrA hrB hrC hmm
    go_wp2_with fail
    go_loopw [6] (fun v wr => ∃ (l : List UInt8) (S : Nat → Bool) (n : Nat), Qu wr (w.heap.size + 1) (w2.heap.size + 1) v l ∧ SetM wr (w2.heap.size + 1) n S ∧ n + unseen S xs.length ≤ 10 ∧ Found (lss xs) k S l ∧ l.length + 2 * unseen S xs.length ≤ 20 ∧ Stands w 28 (.slice A xs.length cp) wr) (fun v wr => quLen v + 2 * leftW wr (w2.heap.size + 1) xs.length)
    case atStart => exact ⟨_, _, 1, QW.out, MW.out, by have := unseen_top (fun j => false || j == t[0].toNat) xs.length; omega, FD.out, by have := unseen_top (fun j => false || j == t[0].toNat) xs.length; simp only [List.length_singleton]; omega, SW.out⟩
    case round =>
      clear QW MW SW FD
      obtain ⟨wo, rfl⟩ : ∃ wo, wo = wr := ⟨_, rfl⟩
      obtain ⟨l, S, n, hq, hm, hn, hf, hbd, hst⟩ := hrel
      have HM5 := Lib.hid hm; have HFO := Lib.hid hf; have S5 := Lib.hid hst; have HN := Lib.hid hn
      obtain ⟨g, off, cap, rfl⟩ := hq.len
      have HQ := Lib.hid hq
      clear hm hn hf hst hq
      cases l with
      | nil =>
        have HNM := Lib.hid ((HFO.out.names (img_in HX.out) (by rw [HLL.out]; exact hkx) (by rw [HLL.out]; exact h4x)).trans HF.out.symm)
        rw [List.length_nil]
        go_wp2_with fail
        go_loop [9, 59] (fun v i => ∃ (q : Nat) (out : ByteArray), q ≤ 4 ∧ out.data.toList = namesOf (fun j => S (97 + j)) q ∧ v = .string out ∧ i = .int .i64 q) (fun _ i => 4 - (intOf i).toNat)
        case atStart => exact ⟨0, ⟨#[]⟩, Nat.zero_le _, rfl, rfl, rfl⟩
        case round =>
          obtain ⟨q, out, hq, ho, rfl, rfl⟩ := hrel
          have hsz : out.size ≤ 4 := by have := names_len (fun j => S (97 + j)) q; rw [Lib.size_eq, ho]; omega
          have HOUT := Lib.hid ho; clear ho
          by_cases hql : q < 4
          · have e1 := abcd_at (k := q) (by omega)
            have e2 := abcd_ix2 (k := q) hql
            have es := ltr_size q
            have hl1 := HM5.out.look (lc q)
            rw [show S (lc q).toNat = S (97 + q) by rw [lc_nat hql]] at hl1
            have HNS := Lib.hid (names_step (fun j => S (97 + j)) q)
            cases hin : S (97 + q)
            · rw [hin] at hl1
              simp only [hin] at HNS
              clear hin
              go_wp2_with fail
              go_round
              case rel => exact ⟨q + 1, out, by omega, by rw [HNS.out, HOUT.out]; simp, rfl, by go_num⟩
              case measure => simp [intOf]; omega
            · rw [hin] at hl1
              simp only [hin] at HNS
              clear hin
              go_wp2_with fail
              go_round
              case rel => exact ⟨q + 1, _, by omega, by rw [data_append, HNS.out, HOUT.out, ltr_data]; rfl, rfl, by go_num⟩
              case measure => simp [intOf]; omega
          · obtain rfl : q = 4 := by omega
            have HM4 := Lib.hid (mk_list out (HOUT.out.trans HNM.out))
            go_wp2_with fail
            go_ret
            exact ⟨by rw [HM4.out] <;> rfl, S5.out.below⟩
      | cons c0 l =>
        obtain ⟨p1, p2, U⟩ := HFO.out.pop (by rw [HLL.out]; exact h4x)
        have HU := Lib.hid U
        obtain ⟨hln, hcap, hcell, q1, q2⟩ := Qu.pop HQ.out
        have HQ1 := Lib.hid q1; have HQ2 := Lib.hid q2
        have HBD := Lib.hid (show l.length + 1 + 2 * unseen S xs.length ≤ 20 from by rw [List.length_cons] at hbd; exact hbd)
        rw [HLL.out] at p2
        rw [List.length_cons]
        have c5 := S5.out.box
        have HIM := Lib.hid (fun W hR => image_any xs (.slice A xs.length cp) c0 W hR h4x (by omega) (by omega))
        obtain ⟨hz1, hz8, hwi⟩ := imgAt_ok HX.out (c := c0) p2
        have HSL := Lib.hid (lss_img p2)
        have HWI := Lib.hid hwi
        have HL0 := Lib.hid (leftW_is HM5.out h4x)
        obtain ⟨s, hs⟩ : ∃ s, s = imgAt xs c0 := ⟨_, rfl⟩
        rw [← hs] at HIM hz1 hz8 HSL HWI
        clear hs hwi q1 q2 U hbd hln
        go_wp2_with fail
        go_region_with (go_at_call 60; refine (HIM.out _ (S5.out.drew.row HA.out)).mono ?_; rintro e w6 ⟨rfl, hb6⟩; have HB6 := Lib.hid (bthen (bdrew wo) hb6); clear hb6)
        all_goals
          have S6 := Lib.hid (S5.out.on HB6.out)
          have M6 := Lib.hid (HM5.out.below HB6.out)
          by_cases hc1 : cap = 1
          · have HQ6 := Lib.hid ((HQ2.out hc1).below HB6.out)
            subst hc1
            obtain rfl : l = [] := List.eq_nil_of_length_eq_zero (by omega)
            go_wp2_with fail
            go_loopw [6, 39] (fun v i wr => ∃ (m : Nat) (l2 : List UInt8) (S2 : Nat → Bool) (n2 : Nat), m ≤ s.size ∧ i = .int .i64 m ∧ Qu wr (w.heap.size + 1) (w2.heap.size + 1) v l2 ∧ SetM wr (w2.heap.size + 1) n2 S2 ∧ n2 + unseen S2 xs.length ≤ 10 ∧ Under (lss xs) k (c0.toNat - 97) S2 l2 (s.data.toList.take m) ∧ l2.length + 2 * unseen S2 xs.length ≤ 0 + 2 * unseen S xs.length ∧ Stands w 28 (.slice A xs.length cp) wr) (fun _ i _ => s.size - (intOf i).toNat)
            case atStart => exact ⟨0, [], S, n, Nat.zero_le _, rfl, HQ6.out, M6.out, HN.out, HU.out, Nat.le_refl _, S6.out⟩
            case round =>
              clear HQ6 S6 M6
              obtain ⟨wi, rfl⟩ : ∃ wi, wi = wr := ⟨_, rfl⟩
              obtain ⟨m, l2, S2, n2, hm, rfl, hq, hmm2, hn2, hu, hle, hst⟩ := hrel
              have HQ7 := Lib.hid hq; have HM7 := Lib.hid hmm2; have HN7 := Lib.hid hn2; have HU7 := Lib.hid hu; have HLE := Lib.hid hle; have S7 := Lib.hid hst
              clear hq hmm2 hn2 hu hle hst
              by_cases hml : m < s.size
              · obtain ⟨b1, b2, b3⟩ := wordIn_byte HWI.out m hml
                have hl1 := HM7.out.look s[m]
                have HTK := Lib.hid (take_snoc s m hml)
                cases hin : S2 s[m].toNat
                · have HUL := Lib.hid (unseen_lt (S := S2) (S' := fun j => S2 j || j == s[m].toNat) (j := s[m].toNat - 97) (N := xs.length) (by rw [show 97 + (s[m].toNat - 97) = s[m].toNat by omega]; exact hin) (by rw [show 97 + (s[m].toNat - 97) = s[m].toNat by omega]; simp) (by omega) (fun j _ hj => by rw [hj]; rfl))
                  rw [hin] at hl1
                  obtain ⟨w8, hr8, hm8, hg8⟩ := HM7.out.put (by unfold maxLen; have := HN7.out; omega) s[m]
                  have HM8 := Lib.hid hm8
                  have HQ8 := Lib.hid (HQ7.out.kept hg8 (fun g e => by cases e; rfl))
                  have S8 := Lib.hid (stands_grown S7.out hg8 (fun g e => by cases e; exact HBM.out))
                  have HPU := Lib.hid (HU7.out.push (c := s[m]) (by rw [HSL.out]; simp [ByteArray.getElem_eq_getElem_data]) (by omega) (by rw [HLL.out]; omega) (by rw [HLL.out]; exact h4x))
                  clear hm8 hg8 hin
                  go_wp2_with (at_builtin; refine wpList_append_qu rfl _ _ rfl i0 HI.out HZ0.out HZ1.out HZ2.out (w.heap.size + 1) (w2.heap.size + 1) _ l2 rfl (HQ8.out.below (bnew _ _)) (by have := S8.out.size; simp; omega) (by have := HM8.out.lt; simp; omega) (by have := HLE.out; have := HBD.out; omega) s[m] ⟨_, 0, none⟩ 1 rfl (cell_one_new _ _ _) ?_)
                  intro v9 w9 row hq9 hg9 hr9
                  have HQ9 := Lib.hid hq9; have HG9 := Lib.hid hg9; have HR9 := Lib.hid hr9
                  clear hq9 hg9 hr9
                  go_wp2_with fail
                  go_roundw
                  case rel => exact ⟨m + 1, _, _, n2 + 1, by omega, by go_num, HQ9.out, (HM8.out.below (bnew _ _)).kept HG9.out (fun e => (HR9.out _ e.symm).2 rfl), by have := HUL.out; have := HN7.out; omega, by rw [HTK.out]; exact HPU.out, by have := HUL.out; have := HLE.out; rw [List.length_append]; simp; omega, stands_grown (S8.out.alloc _) HG9.out (fun g e => (HR9.out g e).1)⟩
                  case measure => simp [intOf]; omega
                · have HSE := Lib.hid (HU7.out.seen hin)
                  rw [hin] at hl1
                  clear hin
                  go_wp2_with fail
                  go_roundw
                  case rel => exact ⟨m + 1, l2, S2, n2, by omega, by go_num, HQ7.out, HM7.out, HN7.out, by rw [HTK.out]; exact HSE.out, HLE.out, S7.out⟩
                  case measure => simp [intOf]; omega
              · obtain rfl : m = s.size := by omega
                have HFN := Lib.hid (show Found (lss xs) k S2 l2 from by have h := HU7.out; rw [take_all s s.size (Nat.le_refl _), ← HSL.out] at h; exact h.leave)
                have HQL := Lib.hid HQ7.out.quLen
                have HL1 := Lib.hid (leftW_is HM7.out h4x)
                go_wp2_with fail
                go_roundw
                case rel => exact ⟨l2, S2, n2, HQ7.out, HM7.out, HN7.out, HFN.out, by have := HLE.out; have := HBD.out; omega, S7.out⟩
                case measure =>
                  rw [HQL.out, HL1.out, HL0.out]
                  show l2.length + 2 * unseen S2 xs.length < 0 + 1 + 2 * unseen S xs.length
                  have := HLE.out
                  omega
          · have HQ6 := Lib.hid (HQ1.out.below HB6.out)
            go_wp2_with fail
            go_loopw [6, 39] (fun v i wr => ∃ (m : Nat) (l2 : List UInt8) (S2 : Nat → Bool) (n2 : Nat), m ≤ s.size ∧ i = .int .i64 m ∧ Qu wr (w.heap.size + 1) (w2.heap.size + 1) v l2 ∧ SetM wr (w2.heap.size + 1) n2 S2 ∧ n2 + unseen S2 xs.length ≤ 10 ∧ Under (lss xs) k (c0.toNat - 97) S2 l2 (s.data.toList.take m) ∧ l2.length + 2 * unseen S2 xs.length ≤ l.length + 2 * unseen S xs.length ∧ Stands w 28 (.slice A xs.length cp) wr) (fun _ i _ => s.size - (intOf i).toNat)
            case atStart => exact ⟨0, l, S, n, Nat.zero_le _, rfl, HQ6.out, M6.out, HN.out, HU.out, Nat.le_refl _, S6.out⟩
            case round =>
              clear HQ6 S6 M6
              obtain ⟨wi, rfl⟩ : ∃ wi, wi = wr := ⟨_, rfl⟩
              obtain ⟨m, l2, S2, n2, hm, rfl, hq, hmm2, hn2, hu, hle, hst⟩ := hrel
              have HQ7 := Lib.hid hq; have HM7 := Lib.hid hmm2; have HN7 := Lib.hid hn2; have HU7 := Lib.hid hu; have HLE := Lib.hid hle; have S7 := Lib.hid hst
              clear hq hmm2 hn2 hu hle hst
              by_cases hml : m < s.size
              · obtain ⟨b1, b2, b3⟩ := wordIn_byte HWI.out m hml
                have hl1 := HM7.out.look s[m]
                have HTK := Lib.hid (take_snoc s m hml)
                cases hin : S2 s[m].toNat
                · have HUL := Lib.hid (unseen_lt (S := S2) (S' := fun j => S2 j || j == s[m].toNat) (j := s[m].toNat - 97) (N := xs.length) (by rw [show 97 + (s[m].toNat - 97) = s[m].toNat by omega]; exact hin) (by rw [show 97 + (s[m].toNat - 97) = s[m].toNat by omega]; simp) (by omega) (fun j _ hj => by rw [hj]; rfl))
                  rw [hin] at hl1
                  obtain ⟨w8, hr8, hm8, hg8⟩ := HM7.out.put (by unfold maxLen; have := HN7.out; omega) s[m]
                  have HM8 := Lib.hid hm8
                  have HQ8 := Lib.hid (HQ7.out.kept hg8 (fun g e => by cases e; rfl))
                  have S8 := Lib.hid (stands_grown S7.out hg8 (fun g e => by cases e; exact HBM.out))
                  have HPU := Lib.hid (HU7.out.push (c := s[m]) (by rw [HSL.out]; simp [ByteArray.getElem_eq_getElem_data]) (by omega) (by rw [HLL.out]; omega) (by rw [HLL.out]; exact h4x))
                  clear hm8 hg8 hin
                  go_wp2_with (at_builtin; refine wpList_append_qu rfl _ _ rfl i0 HI.out HZ0.out HZ1.out HZ2.out (w.heap.size + 1) (w2.heap.size + 1) _ l2 rfl (HQ8.out.below (bnew _ _)) (by have := S8.out.size; simp; omega) (by have := HM8.out.lt; simp; omega) (by have := HLE.out; have := HBD.out; omega) s[m] ⟨_, 0, none⟩ 1 rfl (cell_one_new _ _ _) ?_)
                  intro v9 w9 row hq9 hg9 hr9
                  have HQ9 := Lib.hid hq9; have HG9 := Lib.hid hg9; have HR9 := Lib.hid hr9
                  clear hq9 hg9 hr9
                  go_wp2_with fail
                  go_roundw
                  case rel => exact ⟨m + 1, _, _, n2 + 1, by omega, by go_num, HQ9.out, (HM8.out.below (bnew _ _)).kept HG9.out (fun e => (HR9.out _ e.symm).2 rfl), by have := HUL.out; have := HN7.out; omega, by rw [HTK.out]; exact HPU.out, by have := HUL.out; have := HLE.out; rw [List.length_append]; simp; omega, stands_grown (S8.out.alloc _) HG9.out (fun g e => (HR9.out g e).1)⟩
                  case measure => simp [intOf]; omega
                · have HSE := Lib.hid (HU7.out.seen hin)
                  rw [hin] at hl1
                  clear hin
                  go_wp2_with fail
                  go_roundw
                  case rel => exact ⟨m + 1, l2, S2, n2, by omega, by go_num, HQ7.out, HM7.out, HN7.out, by rw [HTK.out]; exact HSE.out, HLE.out, S7.out⟩
                  case measure => simp [intOf]; omega
              · obtain rfl : m = s.size := by omega
                have HFN := Lib.hid (show Found (lss xs) k S2 l2 from by have h := HU7.out; rw [take_all s s.size (Nat.le_refl _), ← HSL.out] at h; exact h.leave)
                have HQL := Lib.hid HQ7.out.quLen
                have HL1 := Lib.hid (leftW_is HM7.out h4x)
                go_wp2_with fail
                go_roundw
                case rel => exact ⟨l2, S2, n2, HQ7.out, HM7.out, HN7.out, HFN.out, by have := HLE.out; have := HBD.out; omega, S7.out⟩
                case measure =>
                  rw [HQL.out, HL1.out, HL0.out]
                  show l2.length + 2 * unseen S2 xs.length < (l.length + 1) + 2 * unseen S xs.length
                  have := HLE.out
                  omega
end Go.Proofs.Ytglleimmmfnhcaa
