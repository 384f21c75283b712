/- Walks and plain laws of the functions that a law reaches, several texts in one (part 7). Conditions: none beyond the hypotheses of each lemma. -/
import Derived.Deep.RegionLaw
import Derived.Test.YtciiokegifgbdaaShelf
import Derived.Lib.IndexMore
import Derived.Laws.MakeOwn
import Derived.Deep.AppendLies
import Derived.Test.YtciiokegifgbdaaG6
import Derived.Test.YtciiokegifgbdaaG5
import Derived.Test.YtciiokegifgbdaaG2
import Derived.Test.YtciiokegifgbdaaG1
/- Walks: the letters that are reached, the program's way. -/
namespace Go.Proofs.Ytciiokegifgbdaa
open Go.RowKit Go.Maps
set_option maxRecDepth 20000

theorem abcd_ix2 {k : Nat} (h : k < 4) : (⟨#[97, 98, 99, 100]⟩ : ByteArray)[k]'h = lc k := by
  rcases (show k = 0 ∨ k = 1 ∨ k = 2 ∨ k = 3 by omega) with rfl | rfl | rfl | rfl <;> rfl
theorem img_in {xs : List ByteArray} (hx : substB xs = true) : ∀ l ∈ lss xs, ∀ c ∈ l, 97 ≤ c.toNat ∧ c.toNat - 97 < (lss xs).length := by
  intro l hl c hc
  obtain ⟨s, hs, rfl⟩ := List.mem_map.1 hl
  obtain ⟨_, _, h3, h4⟩ := (subst_parts hx).2.2 s hs
  obtain ⟨m, hm, rfl⟩ := List.getElem_of_mem hc
  have hm' : m < s.size := by rw [Lib.size_eq]; exact hm
  have a1 := inB_at h3 m hm'
  have a2 := (word_byte (word_letters h4) m hm').1
  have e : s[m] = s.data.toList[m] := by simp [ByteArray.getElem_eq_getElem_data]
  rw [← e, lss_len]; omega
theorem lss_img {xs : List ByteArray} {c : UInt8} (h : c.toNat - 97 < xs.length) : (lss xs).getD (c.toNat - 97) [] = (imgAt xs c).data.toList := by rw [lss_get h, imgAt_get h]
set_option maxHeartbeats 4000000 in
theorem implReachedBy_any (xs : List ByteArray) (va : Value) (t : ByteArray) (w : World) (ha : Row1 w w.heap.size va (xs.map .string)) (hs : ∀ s ∈ xs, s.size ≤ maxLen) (ht : t.size ≤ maxLen) :
    Calls Try.prog 26 #[.agg #[va], .string t] w fun e w' => e = .returned (.string ⟨(rbL xs t.data.toList).toArray⟩) ∧ Below w.heap.size w w' := by
  obtain ⟨i0, hi, hz0, hz1, hz2⟩ := info_parts info_byte
  have HI := Lib.hid hi; have HZ0 := Lib.hid hz0; have HZ1 := Lib.hid hz1; have HZ2 := Lib.hid hz2
  clear hi hz0 hz1 hz2
  obtain ⟨A, cp, rfl⟩ := ha.shape
  have s0 := Stands.start w 33 (.slice A xs.length cp)
  have HS0 := Lib.hid s0
  have HA := Lib.hid ha
  have HOK := Lib.hid (implSubstOk_any xs (.slice A xs.length cp) _ (s0.row ha) hs)
  have HHI := Lib.hid (fun W (S : Stands w 33 (.slice A xs.length cp) W) => hasImage_any xs _ t W (S.row HA.out) ht)
  have c0 := s0.box
  clear s0 ha hs
  cases hx : substB xs
  · have HF := Lib.hid (rb_no2 (t := t.data.toList) hx)
    go_enter Try.func26, Try.ntmps26
    go_wp2_with fail
    refine HOK.out.mono ?_
    rw [hx]
    rintro e w1 ⟨rfl, hb1⟩
    have S1 := Lib.hid (HS0.out.on hb1); clear hb1
    go_wp2_with fail
    go_ret
    exact ⟨by rw [HF.out] <;> rfl, S1.out.below⟩
  have h4x := (subst_parts hx).2.1
  have HX := Lib.hid hx; clear hx
  cases himg : imgB xs t.data.toList
  · have HF := Lib.hid (rb_no1 himg)
    have HM := Lib.hid himg; clear himg
    go_enter Try.func26, Try.ntmps26
    go_wp2_with fail
    refine HOK.out.mono ?_
    rw [HX.out]
    rintro e w1 ⟨rfl, hb1⟩
    have S1 := Lib.hid (HS0.out.on hb1); clear hb1
    have c1 := S1.out.box
    clear c0
    go_wp2_with fail
    refine (HHI.out _ S1.out).mono ?_
    rw [HM.out]
    rintro e w2 ⟨rfl, hb2⟩
    have S2 := Lib.hid (S1.out.on hb2); clear hb2
    go_wp2_with fail
    go_ret
    exact ⟨by rw [HF.out] <;> rfl, S2.out.below⟩
  obtain ⟨k, hkx, htl, hk4, hk⟩ := img_letter himg
  have hs1 : t.size = 1 := by rw [htl]; rfl
  have h0 : 0 < t.size := by omega
  have h0i : (0 : Int) < (t.size : Int) := by omega
  have HC0 := Lib.hid (show t[0] = lc k by subst htl; rfl)
  have HF := Lib.hid (rb_yes himg HX.out)
  rw [show (letK xs t.data.toList).toNat = k by rw [hk]; rfl] at HF
  have HM := Lib.hid himg
  obtain ⟨c, hc⟩ : ∃ c, c = t[0] := ⟨_, rfl⟩
  rw [← hc] at HC0
  have HCC := Lib.hid hc
  clear himg htl hk hc
  go_enter Try.func26, Try.ntmps26
  go_wp2_with fail
  refine HOK.out.mono ?_
  rw [HX.out]
  rintro e w1 ⟨rfl, hb1⟩
  have S1 := Lib.hid (HS0.out.on hb1); clear hb1
  have c1 := S1.out.box
  clear c0
  go_wp2_with fail
  refine (HHI.out _ S1.out).mono ?_
  rw [HM.out]
  rintro e w2 ⟨rfl, hb2⟩
  have S2 := Lib.hid (S1.out.on hb2); clear hb2 c1
  go_wp2_with fail
  obtain ⟨wA, hrA, hmA, hgA⟩ := ((SetM.made w2).below (bdrew _)).put (by unfold maxLen; omega) t[0]
  obtain ⟨wB, hrB, hmB, hgB⟩ := (((SetM.made w2).below (bnew _ (.cells #[.int .u8 (t[0].toNat : Int)] 5))).below (bdrew _)).put (by unfold maxLen; omega) t[0]
  have hmk := SetM.made (w2.alloc (.cells #[.int .u8 (t[0].toNat : Int)] 5))
  rw [World.size_alloc] at hmk
  obtain ⟨wC, hrC, hmC, hgC⟩ := (hmk.below (bdrew _)).put (by unfold maxLen; omega) t[0]
  clear hmk
  have HmA := Lib.hid hmA; have HmB := Lib.hid hmB; have HmC := Lib.hid hmC
  have HgA := Lib.hid hgA; have HgB := Lib.hid hgB; have HgC := Lib.hid hgC
  clear hmA hmB hmC hgA hgB hgC
  have FD := Lib.hid (show Found (lss xs) k (fun j => false || j == t[0].toNat) [t[0]] from by rw [← HCC.out, HC0.out]; exact Found.first (by rw [lss_len]; exact h4x) (by rw [lss_len]; exact hkx))
  have HLL := Lib.hid (lss_len xs)
  have hmm := @run_makeMap Try.prog
  go_region
  · have hsz := HgA.out.size
    have h2s := S2.out.size
    have SW := Lib.hid ((stands_grown (S2.out.alloc (.map #[] 0)).drew HgA.out (fun g e => by cases e; exact S2.out.size)).alloc (.cells #[.int .u8 (t[0].toNat : Int)] 5))
    have QW := Lib.hid (Qu.own (bm := w2.heap.size) (base := w.heap.size + 1) (l := [t[0]]) (World.ownsRow_lit (base := wA.heap.size) (e := 5) (size := 1) wA #[.int .u8 (t[0].toNat : Int)] 1 (Nat.le_refl _) (by unfold maxLen; omega) rfl) rfl (by omega) (by simp at hsz; omega) (fun g e => by have e2 : wA.heap.size = g := Option.some.inj e; simp at hsz; omega))
    have MW := Lib.hid (HmA.out.below (bnew wA (.cells #[.int .u8 (t[0].toNat : Int)] 5)))
    have HBM := Lib.hid h2s
    clear hrA hrB hrC hmm
    go_wp2_with fail
    go_loopw [6] (fun v wr => ∃ (l : List UInt8) (S : Nat → Bool) (n : Nat), Qu wr (w.heap.size + 1) w2.heap.size v l ∧ SetM wr w2.heap.size n S ∧ n + unseen S xs.length ≤ 10 ∧ Found (lss xs) k S l ∧ l.length + 2 * unseen S xs.length ≤ 20 ∧ Stands w 33 (.slice A xs.length cp) wr) (fun v wr => quLen v + 2 * leftW wr w2.heap.size xs.length)
    case atStart => exact ⟨_, _, 1, QW.out, MW.out, by have := unseen_top (fun j => false || j == t[0].toNat) xs.length; omega, FD.out, by have := unseen_top (fun j => false || j == t[0].toNat) xs.length; simp only [List.length_singleton]; omega, SW.out⟩
    case round =>
      clear QW MW SW FD
      obtain ⟨wo, rfl⟩ : ∃ wo, wo = wr := ⟨_, rfl⟩
      obtain ⟨l, S, n, hq, hm, hn, hf, hbd, hst⟩ := hrel
      have HM5 := Lib.hid hm; have HFO := Lib.hid hf; have S5 := Lib.hid hst; have HN := Lib.hid hn
      obtain ⟨g, off, cap, rfl⟩ := hq.len
      have HQ := Lib.hid hq
      clear hm hn hf hst hq
      cases l with
      | nil =>
        have HNM := Lib.hid ((HFO.out.names (img_in HX.out) (by rw [HLL.out]; exact hkx) (by rw [HLL.out]; exact h4x)).trans HF.out.symm)
        rw [List.length_nil]
        go_wp2_with fail
        go_loop [9, 59] (fun v i => ∃ (q : Nat) (out : ByteArray), q ≤ 4 ∧ out.data.toList = namesOf (fun j => S (97 + j)) q ∧ v = .string out ∧ i = .int .i64 q) (fun _ i => 4 - (intOf i).toNat)
        case atStart => exact ⟨0, ⟨#[]⟩, Nat.zero_le _, rfl, rfl, rfl⟩
        case round =>
          obtain ⟨q, out, hq, ho, rfl, rfl⟩ := hrel
          have hsz : out.size ≤ 4 := by have := names_len (fun j => S (97 + j)) q; rw [Lib.size_eq, ho]; omega
          have HOUT := Lib.hid ho; clear ho
          by_cases hql : q < 4
          · have e1 := abcd_at (k := q) (by omega)
            have e2 := abcd_ix2 (k := q) hql
            have es := ltr_size q
            have hl1 := HM5.out.look (lc q)
            rw [show S (lc q).toNat = S (97 + q) by rw [lc_nat hql]] at hl1
            have HNS := Lib.hid (names_step (fun j => S (97 + j)) q)
            cases hin : S (97 + q)
            · rw [hin] at hl1
              simp only [hin] at HNS
              clear hin
              go_wp2_with fail
              go_round
              case rel => exact ⟨q + 1, out, by omega, by rw [HNS.out, HOUT.out]; simp, rfl, by go_num⟩
              case measure => simp [intOf]; omega
            · rw [hin] at hl1
              simp only [hin] at HNS
              clear hin
              go_wp2_with fail
              go_round
              case rel => exact ⟨q + 1, _, by omega, by rw [data_append, HNS.out, HOUT.out, ltr_data]; rfl, rfl, by go_num⟩
              case measure => simp [intOf]; omega
          · obtain rfl : q = 4 := by omega
            have HM4 := Lib.hid (mk_list out (HOUT.out.trans HNM.out))
            go_wp2_with fail
            go_ret
            exact ⟨by rw [HM4.out] <;> rfl, S5.out.below⟩
      | cons c0 l =>
        obtain ⟨p1, p2, U⟩ := HFO.out.pop (by rw [HLL.out]; exact h4x)
        have HU := Lib.hid U
        obtain ⟨hln, hcap, hcell, q1, q2⟩ := Qu.pop HQ.out
        have HQ1 := Lib.hid q1; have HQ2 := Lib.hid q2
        have HBD := Lib.hid (show l.length + 1 + 2 * unseen S xs.length ≤ 20 from by rw [List.length_cons] at hbd; exact hbd)
        rw [HLL.out] at p2
        rw [List.length_cons]
        have c5 := S5.out.box
        have HIM := Lib.hid (fun W hR => image_any xs (.slice A xs.length cp) c0 W hR h4x (by omega) (by omega))
        obtain ⟨hz1, hz8, hwi⟩ := imgAt_ok HX.out (c := c0) p2
        have HSL := Lib.hid (lss_img p2)
        have HWI := Lib.hid hwi
        have HL0 := Lib.hid (leftW_is HM5.out h4x)
        obtain ⟨s, hs⟩ : ∃ s, s = imgAt xs c0 := ⟨_, rfl⟩
        rw [← hs] at HIM hz1 hz8 HSL HWI
        clear hs hwi q1 q2 U hbd hln
        go_wp2_with fail
        go_region_with (go_at_call 46; refine (HIM.out _ (S5.out.drew.row HA.out)).mono ?_; rintro e w6 ⟨rfl, hb6⟩; have HB6 := Lib.hid (bthen (bdrew wo) hb6); clear hb6)
        all_goals
          have S6 := Lib.hid (S5.out.on HB6.out)
          have M6 := Lib.hid (HM5.out.below HB6.out)
          by_cases hc1 : cap = 1
          · have HQ6 := Lib.hid ((HQ2.out hc1).below HB6.out)
            subst hc1
            obtain rfl : l = [] := List.eq_nil_of_length_eq_zero (by omega)
            go_wp2_with fail
            go_loopw [6, 39] (fun v i wr => ∃ (m : Nat) (l2 : List UInt8) (S2 : Nat → Bool) (n2 : Nat), m ≤ s.size ∧ i = .int .i64 m ∧ Qu wr (w.heap.size + 1) w2.heap.size v l2 ∧ SetM wr w2.heap.size n2 S2 ∧ n2 + unseen S2 xs.length ≤ 10 ∧ Under (lss xs) k (c0.toNat - 97) S2 l2 (s.data.toList.take m) ∧ l2.length + 2 * unseen S2 xs.length ≤ 0 + 2 * unseen S xs.length ∧ Stands w 33 (.slice A xs.length cp) wr) (fun _ i _ => s.size - (intOf i).toNat)
            case atStart => exact ⟨0, [], S, n, Nat.zero_le _, rfl, HQ6.out, M6.out, HN.out, HU.out, Nat.le_refl _, S6.out⟩
            case round =>
              clear HQ6 S6 M6
              obtain ⟨wi, rfl⟩ : ∃ wi, wi = wr := ⟨_, rfl⟩
              obtain ⟨m, l2, S2, n2, hm, rfl, hq, hmm2, hn2, hu, hle, hst⟩ := hrel
              have HQ7 := Lib.hid hq; have HM7 := Lib.hid hmm2; have HN7 := Lib.hid hn2; have HU7 := Lib.hid hu; have HLE := Lib.hid hle; have S7 := Lib.hid hst
              clear hq hmm2 hn2 hu hle hst
              by_cases hml : m < s.size
              · obtain ⟨b1, b2, b3⟩ := wordIn_byte HWI.out m hml
                have hl1 := HM7.out.look s[m]
                have HTK := Lib.hid (take_snoc s m hml)
                cases hin : S2 s[m].toNat
                · have HUL := Lib.hid (unseen_lt (S := S2) (S' := fun j => S2 j || j == s[m].toNat) (j := s[m].toNat - 97) (N := xs.length) (by rw [show 97 + (s[m].toNat - 97) = s[m].toNat by omega]; exact hin) (by rw [show 97 + (s[m].toNat - 97) = s[m].toNat by omega]; simp) (by omega) (fun j _ hj => by rw [hj]; rfl))
                  rw [hin] at hl1
                  obtain ⟨w8, hr8, hm8, hg8⟩ := HM7.out.put (by unfold maxLen; have := HN7.out; omega) s[m]
                  have HM8 := Lib.hid hm8
                  have HQ8 := Lib.hid (HQ7.out.kept hg8 (fun g e => by cases e; rfl))
                  have S8 := Lib.hid (stands_grown S7.out hg8 (fun g e => by cases e; exact HBM.out))
                  have HPU := Lib.hid (HU7.out.push (c := s[m]) (by rw [HSL.out]; simp [ByteArray.getElem_eq_getElem_data]) (by omega) (by rw [HLL.out]; omega) (by rw [HLL.out]; exact h4x))
                  clear hm8 hg8 hin
                  go_wp2_with (at_builtin; refine wpList_append_qu rfl _ _ rfl i0 HI.out HZ0.out HZ1.out HZ2.out (w.heap.size + 1) w2.heap.size _ l2 rfl (HQ8.out.below (bnew _ _)) (by have := S8.out.size; simp; omega) (by have := HM8.out.lt; simp; omega) (by have := HLE.out; have := HBD.out; omega) s[m] ⟨_, 0, none⟩ 1 rfl (cell_one_new _ _ _) ?_)
                  intro v9 w9 row hq9 hg9 hr9
                  have HQ9 := Lib.hid hq9; have HG9 := Lib.hid hg9; have HR9 := Lib.hid hr9
                  clear hq9 hg9 hr9
                  go_wp2_with fail
                  go_roundw
                  case rel => exact ⟨m + 1, _, _, n2 + 1, by omega, by go_num, HQ9.out, (HM8.out.below (bnew _ _)).kept HG9.out (fun e => (HR9.out _ e.symm).2 rfl), by have := HUL.out; have := HN7.out; omega, by rw [HTK.out]; exact HPU.out, by have := HUL.out; have := HLE.out; rw [List.length_append]; simp; omega, stands_grown (S8.out.alloc _) HG9.out (fun g e => (HR9.out g e).1)⟩
                  case measure => simp [intOf]; omega
                · have HSE := Lib.hid (HU7.out.seen hin)
                  rw [hin] at hl1
                  clear hin
                  go_wp2_with fail
                  go_roundw
                  case rel => exact ⟨m + 1, l2, S2, n2, by omega, by go_num, HQ7.out, HM7.out, HN7.out, by rw [HTK.out]; exact HSE.out, HLE.out, S7.out⟩
                  case measure => simp [intOf]; omega
              · obtain rfl : m = s.size := by omega
                have HFN := Lib.hid (show Found (lss xs) k S2 l2 from by have h := HU7.out; rw [take_all s s.size (Nat.le_refl _), ← HSL.out] at h; exact h.leave)
                have HQL := Lib.hid HQ7.out.quLen
                have HL1 := Lib.hid (leftW_is HM7.out h4x)
                go_wp2_with fail
                go_roundw
                case rel => exact ⟨l2, S2, n2, HQ7.out, HM7.out, HN7.out, HFN.out, by have := HLE.out; have := HBD.out; omega, S7.out⟩
                case measure =>
                  rw [HQL.out, HL1.out, HL0.out]
                  show l2.length + 2 * unseen S2 xs.length < 0 + 1 + 2 * unseen S xs.length
                  have := HLE.out
                  omega
          · have HQ6 := Lib.hid (HQ1.out.below HB6.out)
            go_wp2_with fail
            go_loopw [6, 39] (fun v i wr => ∃ (m : Nat) (l2 : List UInt8) (S2 : Nat → Bool) (n2 : Nat), m ≤ s.size ∧ i = .int .i64 m ∧ Qu wr (w.heap.size + 1) w2.heap.size v l2 ∧ SetM wr w2.heap.size n2 S2 ∧ n2 + unseen S2 xs.length ≤ 10 ∧ Under (lss xs) k (c0.toNat - 97) S2 l2 (s.data.toList.take m) ∧ l2.length + 2 * unseen S2 xs.length ≤ l.length + 2 * unseen S xs.length ∧ Stands w 33 (.slice A xs.length cp) wr) (fun _ i _ => s.size - (intOf i).toNat)
            case atStart => exact ⟨0, l, S, n, Nat.zero_le _, rfl, HQ6.out, M6.out, HN.out, HU.out, Nat.le_refl _, S6.out⟩
            case round =>
              clear HQ6 S6 M6
              obtain ⟨wi, rfl⟩ : ∃ wi, wi = wr := ⟨_, rfl⟩
              obtain ⟨m, l2, S2, n2, hm, rfl, hq, hmm2, hn2, hu, hle, hst⟩ := hrel
              have HQ7 := Lib.hid hq; have HM7 := Lib.hid hmm2; have HN7 := Lib.hid hn2; have HU7 := Lib.hid hu; have HLE := Lib.hid hle; have S7 := Lib.hid hst
              clear hq hmm2 hn2 hu hle hst
              by_cases hml : m < s.size
              · obtain ⟨b1, b2, b3⟩ := wordIn_byte HWI.out m hml
                have hl1 := HM7.out.look s[m]
                have HTK := Lib.hid (take_snoc s m hml)
                cases hin : S2 s[m].toNat
                · have HUL := Lib.hid (unseen_lt (S := S2) (S' := fun j => S2 j || j == s[m].toNat) (j := s[m].toNat - 97) (N := xs.length) (by rw [show 97 + (s[m].toNat - 97) = s[m].toNat by omega]; exact hin) (by rw [show 97 + (s[m].toNat - 97) = s[m].toNat by omega]; simp) (by omega) (fun j _ hj => by rw [hj]; rfl))
                  rw [hin] at hl1
                  obtain ⟨w8, hr8, hm8, hg8⟩ := HM7.out.put (by unfold maxLen; have := HN7.out; omega) s[m]
                  have HM8 := Lib.hid hm8
                  have HQ8 := Lib.hid (HQ7.out.kept hg8 (fun g e => by cases e; rfl))
                  have S8 := Lib.hid (stands_grown S7.out hg8 (fun g e => by cases e; exact HBM.out))
                  have HPU := Lib.hid (HU7.out.push (c := s[m]) (by rw [HSL.out]; simp [ByteArray.getElem_eq_getElem_data]) (by omega) (by rw [HLL.out]; omega) (by rw [HLL.out]; exact h4x))
                  clear hm8 hg8 hin
                  go_wp2_with (at_builtin; refine wpList_append_qu rfl _ _ rfl i0 HI.out HZ0.out HZ1.out HZ2.out (w.heap.size + 1) w2.heap.size _ l2 rfl (HQ8.out.below (bnew _ _)) (by have := S8.out.size; simp; omega) (by have := HM8.out.lt; simp; omega) (by have := HLE.out; have := HBD.out; omega) s[m] ⟨_, 0, none⟩ 1 rfl (cell_one_new _ _ _) ?_)
                  intro v9 w9 row hq9 hg9 hr9
                  have HQ9 := Lib.hid hq9; have HG9 := Lib.hid hg9; have HR9 := Lib.hid hr9
                  clear hq9 hg9 hr9
                  go_wp2_with fail
                  go_roundw
                  case rel => exact ⟨m + 1, _, _, n2 + 1, by omega, by go_num, HQ9.out, (HM8.out.below (bnew _ _)).kept HG9.out (fun e => (HR9.out _ e.symm).2 rfl), by have := HUL.out; have := HN7.out; omega, by rw [HTK.out]; exact HPU.out, by have := HUL.out; have := HLE.out; rw [List.length_append]; simp; omega, stands_grown (S8.out.alloc _) HG9.out (fun g e => (HR9.out g e).1)⟩
                  case measure => simp [intOf]; omega
                · have HSE := Lib.hid (HU7.out.seen hin)
                  rw [hin] at hl1
                  clear hin
                  go_wp2_with fail
                  go_roundw
                  case rel => exact ⟨m + 1, l2, S2, n2, by omega, by go_num, HQ7.out, HM7.out, HN7.out, by rw [HTK.out]; exact HSE.out, HLE.out, S7.out⟩
                  case measure => simp [intOf]; omega
              · obtain rfl : m = s.size := by omega
                have HFN := Lib.hid (show Found (lss xs) k S2 l2 from by have h := HU7.out; rw [take_all s s.size (Nat.le_refl _), ← HSL.out] at h; exact h.leave)
                have HQL := Lib.hid HQ7.out.quLen
                have HL1 := Lib.hid (leftW_is HM7.out h4x)
                go_wp2_with fail
                go_roundw
                case rel => exact ⟨l2, S2, n2, HQ7.out, HM7.out, HN7.out, HFN.out, by have := HLE.out; have := HBD.out; omega, S7.out⟩
                case measure =>
                  rw [HQL.out, HL1.out, HL0.out]
                  show l2.length + 2 * unseen S2 xs.length < (l.length + 1) + 2 * unseen S xs.length
                  have := HLE.out
                  omega
  · have h2s := S2.out.size
    have SW := Lib.hid (stands_grown ((S2.out.alloc (.map #[] 0)).alloc (.cells #[.int .u8 (t[0].toNat : Int)] 5)).drew HgB.out (fun g e => by cases e; exact S2.out.size))
    have how := World.ownsRow_lit (base := (w2.alloc (.map #[] 0)).heap.size) (e := 5) (size := 1) (w2.alloc (.map #[] 0)) #[.int .u8 (t[0].toNat : Int)] 1 (Nat.le_refl _) (by unfold maxLen; omega) rfl
    rw [World.size_alloc] at how
    have QW := Lib.hid (((Qu.own (bm := w2.heap.size) (base := w.heap.size + 1) (l := [t[0]]) how rfl (by omega) (by omega) (fun g e => by have e2 : w2.heap.size + 1 = g := Option.some.inj e; omega)).below (bdrew _)).kept HgB.out (fun g e => by cases e; rfl))
    have MW := Lib.hid HmB.out
    have HBM := Lib.hid h2s
    clear how
    clear hrA hrB hrC hmm
    go_wp2_with fail
    go_loopw [6] (fun v wr => ∃ (l : List UInt8) (S : Nat → Bool) (n : Nat), Qu wr (w.heap.size + 1) w2.heap.size v l ∧ SetM wr w2.heap.size n S ∧ n + unseen S xs.length ≤ 10 ∧ Found (lss xs) k S l ∧ l.length + 2 * unseen S xs.length ≤ 20 ∧ Stands w 33 (.slice A xs.length cp) wr) (fun v wr => quLen v + 2 * leftW wr w2.heap.size xs.length)
    case atStart => exact ⟨_, _, 1, QW.out, MW.out, by have := unseen_top (fun j => false || j == t[0].toNat) xs.length; omega, FD.out, by have := unseen_top (fun j => false || j == t[0].toNat) xs.length; simp only [List.length_singleton]; omega, SW.out⟩
    case round =>
      clear QW MW SW FD
      obtain ⟨wo, rfl⟩ : ∃ wo, wo = wr := ⟨_, rfl⟩
      obtain ⟨l, S, n, hq, hm, hn, hf, hbd, hst⟩ := hrel
      have HM5 := Lib.hid hm; have HFO := Lib.hid hf; have S5 := Lib.hid hst; have HN := Lib.hid hn
      obtain ⟨g, off, cap, rfl⟩ := hq.len
      have HQ := Lib.hid hq
      clear hm hn hf hst hq
      cases l with
      | nil =>
        have HNM := Lib.hid ((HFO.out.names (img_in HX.out) (by rw [HLL.out]; exact hkx) (by rw [HLL.out]; exact h4x)).trans HF.out.symm)
        rw [List.length_nil]
        go_wp2_with fail
        go_loop [9, 59] (fun v i => ∃ (q : Nat) (out : ByteArray), q ≤ 4 ∧ out.data.toList = namesOf (fun j => S (97 + j)) q ∧ v = .string out ∧ i = .int .i64 q) (fun _ i => 4 - (intOf i).toNat)
        case atStart => exact ⟨0, ⟨#[]⟩, Nat.zero_le _, rfl, rfl, rfl⟩
        case round =>
          obtain ⟨q, out, hq, ho, rfl, rfl⟩ := hrel
          have hsz : out.size ≤ 4 := by have := names_len (fun j => S (97 + j)) q; rw [Lib.size_eq, ho]; omega
          have HOUT := Lib.hid ho; clear ho
          by_cases hql : q < 4
          · have e1 := abcd_at (k := q) (by omega)
            have e2 := abcd_ix2 (k := q) hql
            have es := ltr_size q
            have hl1 := HM5.out.look (lc q)
            rw [show S (lc q).toNat = S (97 + q) by rw [lc_nat hql]] at hl1
            have HNS := Lib.hid (names_step (fun j => S (97 + j)) q)
            cases hin : S (97 + q)
            · rw [hin] at hl1
              simp only [hin] at HNS
              clear hin
              go_wp2_with fail
              go_round
              case rel => exact ⟨q + 1, out, by omega, by rw [HNS.out, HOUT.out]; simp, rfl, by go_num⟩
              case measure => simp [intOf]; omega
            · rw [hin] at hl1
              simp only [hin] at HNS
              clear hin
              go_wp2_with fail
              go_round
              case rel => exact ⟨q + 1, _, by omega, by rw [data_append, HNS.out, HOUT.out, ltr_data]; rfl, rfl, by go_num⟩
              case measure => simp [intOf]; omega
          · obtain rfl : q = 4 := by omega
            have HM4 := Lib.hid (mk_list out (HOUT.out.trans HNM.out))
            go_wp2_with fail
            go_ret
            exact ⟨by rw [HM4.out] <;> rfl, S5.out.below⟩
      | cons c0 l =>
        obtain ⟨p1, p2, U⟩ := HFO.out.pop (by rw [HLL.out]; exact h4x)
        have HU := Lib.hid U
        obtain ⟨hln, hcap, hcell, q1, q2⟩ := Qu.pop HQ.out
        have HQ1 := Lib.hid q1; have HQ2 := Lib.hid q2
        have HBD := Lib.hid (show l.length + 1 + 2 * unseen S xs.length ≤ 20 from by rw [List.length_cons] at hbd; exact hbd)
        rw [HLL.out] at p2
        rw [List.length_cons]
        have c5 := S5.out.box
        have HIM := Lib.hid (fun W hR => image_any xs (.slice A xs.length cp) c0 W hR h4x (by omega) (by omega))
        obtain ⟨hz1, hz8, hwi⟩ := imgAt_ok HX.out (c := c0) p2
        have HSL := Lib.hid (lss_img p2)
        have HWI := Lib.hid hwi
        have HL0 := Lib.hid (leftW_is HM5.out h4x)
        obtain ⟨s, hs⟩ : ∃ s, s = imgAt xs c0 := ⟨_, rfl⟩
        rw [← hs] at HIM hz1 hz8 HSL HWI
        clear hs hwi q1 q2 U hbd hln
        go_wp2_with fail
        go_region_with (go_at_call 46; refine (HIM.out _ (S5.out.drew.row HA.out)).mono ?_; rintro e w6 ⟨rfl, hb6⟩; have HB6 := Lib.hid (bthen (bdrew wo) hb6); clear hb6)
        all_goals
          have S6 := Lib.hid (S5.out.on HB6.out)
          have M6 := Lib.hid (HM5.out.below HB6.out)
          by_cases hc1 : cap = 1
          · have HQ6 := Lib.hid ((HQ2.out hc1).below HB6.out)
            subst hc1
            obtain rfl : l = [] := List.eq_nil_of_length_eq_zero (by omega)
            go_wp2_with fail
            go_loopw [6, 39] (fun v i wr => ∃ (m : Nat) (l2 : List UInt8) (S2 : Nat → Bool) (n2 : Nat), m ≤ s.size ∧ i = .int .i64 m ∧ Qu wr (w.heap.size + 1) w2.heap.size v l2 ∧ SetM wr w2.heap.size n2 S2 ∧ n2 + unseen S2 xs.length ≤ 10 ∧ Under (lss xs) k (c0.toNat - 97) S2 l2 (s.data.toList.take m) ∧ l2.length + 2 * unseen S2 xs.length ≤ 0 + 2 * unseen S xs.length ∧ Stands w 33 (.slice A xs.length cp) wr) (fun _ i _ => s.size - (intOf i).toNat)
            case atStart => exact ⟨0, [], S, n, Nat.zero_le _, rfl, HQ6.out, M6.out, HN.out, HU.out, Nat.le_refl _, S6.out⟩
            case round =>
              clear HQ6 S6 M6
              obtain ⟨wi, rfl⟩ : ∃ wi, wi = wr := ⟨_, rfl⟩
              obtain ⟨m, l2, S2, n2, hm, rfl, hq, hmm2, hn2, hu, hle, hst⟩ := hrel
              have HQ7 := Lib.hid hq; have HM7 := Lib.hid hmm2; have HN7 := Lib.hid hn2; have HU7 := Lib.hid hu; have HLE := Lib.hid hle; have S7 := Lib.hid hst
              clear hq hmm2 hn2 hu hle hst
              by_cases hml : m < s.size
              · obtain ⟨b1, b2, b3⟩ := wordIn_byte HWI.out m hml
                have hl1 := HM7.out.look s[m]
                have HTK := Lib.hid (take_snoc s m hml)
                cases hin : S2 s[m].toNat
                · have HUL := Lib.hid (unseen_lt (S := S2) (S' := fun j => S2 j || j == s[m].toNat) (j := s[m].toNat - 97) (N := xs.length) (by rw [show 97 + (s[m].toNat - 97) = s[m].toNat by omega]; exact hin) (by rw [show 97 + (s[m].toNat - 97) = s[m].toNat by omega]; simp) (by omega) (fun j _ hj => by rw [hj]; rfl))
                  rw [hin] at hl1
                  obtain ⟨w8, hr8, hm8, hg8⟩ := HM7.out.put (by unfold maxLen; have := HN7.out; omega) s[m]
                  have HM8 := Lib.hid hm8
                  have HQ8 := Lib.hid (HQ7.out.kept hg8 (fun g e => by cases e; rfl))
                  have S8 := Lib.hid (stands_grown S7.out hg8 (fun g e => by cases e; exact HBM.out))
                  have HPU := Lib.hid (HU7.out.push (c := s[m]) (by rw [HSL.out]; simp [ByteArray.getElem_eq_getElem_data]) (by omega) (by rw [HLL.out]; omega) (by rw [HLL.out]; exact h4x))
                  clear hm8 hg8 hin
                  go_wp2_with (at_builtin; refine wpList_append_qu rfl _ _ rfl i0 HI.out HZ0.out HZ1.out HZ2.out (w.heap.size + 1) w2.heap.size _ l2 rfl (HQ8.out.below (bnew _ _)) (by have := S8.out.size; simp; omega) (by have := HM8.out.lt; simp; omega) (by have := HLE.out; have := HBD.out; omega) s[m] ⟨_, 0, none⟩ 1 rfl (cell_one_new _ _ _) ?_)
                  intro v9 w9 row hq9 hg9 hr9
                  have HQ9 := Lib.hid hq9; have HG9 := Lib.hid hg9; have HR9 := Lib.hid hr9
                  clear hq9 hg9 hr9
                  go_wp2_with fail
                  go_roundw
                  case rel => exact ⟨m + 1, _, _, n2 + 1, by omega, by go_num, HQ9.out, (HM8.out.below (bnew _ _)).kept HG9.out (fun e => (HR9.out _ e.symm).2 rfl), by have := HUL.out; have := HN7.out; omega, by rw [HTK.out]; exact HPU.out, by have := HUL.out; have := HLE.out; rw [List.length_append]; simp; omega, stands_grown (S8.out.alloc _) HG9.out (fun g e => (HR9.out g e).1)⟩
                  case measure => simp [intOf]; omega
                · have HSE := Lib.hid (HU7.out.seen hin)
                  rw [hin] at hl1
                  clear hin
                  go_wp2_with fail
                  go_roundw
                  case rel => exact ⟨m + 1, l2, S2, n2, by omega, by go_num, HQ7.out, HM7.out, HN7.out, by rw [HTK.out]; exact HSE.out, HLE.out, S7.out⟩
                  case measure => simp [intOf]; omega
              · obtain rfl : m = s.size := by omega
                have HFN := Lib.hid (show Found (lss xs) k S2 l2 from by have h := HU7.out; rw [take_all s s.size (Nat.le_refl _), ← HSL.out] at h; exact h.leave)
                have HQL := Lib.hid HQ7.out.quLen
                have HL1 := Lib.hid (leftW_is HM7.out h4x)
                go_wp2_with fail
                go_roundw
                case rel => exact ⟨l2, S2, n2, HQ7.out, HM7.out, HN7.out, HFN.out, by have := HLE.out; have := HBD.out; omega, S7.out⟩
                case measure =>
                  rw [HQL.out, HL1.out, HL0.out]
                  show l2.length + 2 * unseen S2 xs.length < 0 + 1 + 2 * unseen S xs.length
                  have := HLE.out
                  omega
          · have HQ6 := Lib.hid (HQ1.out.below HB6.out)
            go_wp2_with fail
            go_loopw [6, 39] (fun v i wr => ∃ (m : Nat) (l2 : List UInt8) (S2 : Nat → Bool) (n2 : Nat), m ≤ s.size ∧ i = .int .i64 m ∧ Qu wr (w.heap.size + 1) w2.heap.size v l2 ∧ SetM wr w2.heap.size n2 S2 ∧ n2 + unseen S2 xs.length ≤ 10 ∧ Under (lss xs) k (c0.toNat - 97) S2 l2 (s.data.toList.take m) ∧ l2.length + 2 * unseen S2 xs.length ≤ l.length + 2 * unseen S xs.length ∧ Stands w 33 (.slice A xs.length cp) wr) (fun _ i _ => s.size - (intOf i).toNat)
            case atStart => exact ⟨0, l, S, n, Nat.zero_le _, rfl, HQ6.out, M6.out, HN.out, HU.out, Nat.le_refl _, S6.out⟩
            case round =>
              clear HQ6 S6 M6
              obtain ⟨wi, rfl⟩ : ∃ wi, wi = wr := ⟨_, rfl⟩
              obtain ⟨m, l2, S2, n2, hm, rfl, hq, hmm2, hn2, hu, hle, hst⟩ := hrel
              have HQ7 := Lib.hid hq; have HM7 := Lib.hid hmm2; have HN7 := Lib.hid hn2; have HU7 := Lib.hid hu; have HLE := Lib.hid hle; have S7 := Lib.hid hst
              clear hq hmm2 hn2 hu hle hst
              by_cases hml : m < s.size
              · obtain ⟨b1, b2, b3⟩ := wordIn_byte HWI.out m hml
                have hl1 := HM7.out.look s[m]
                have HTK := Lib.hid (take_snoc s m hml)
                cases hin : S2 s[m].toNat
                · have HUL := Lib.hid (unseen_lt (S := S2) (S' := fun j => S2 j || j == s[m].toNat) (j := s[m].toNat - 97) (N := xs.length) (by rw [show 97 + (s[m].toNat - 97) = s[m].toNat by omega]; exact hin) (by rw [show 97 + (s[m].toNat - 97) = s[m].toNat by omega]; simp) (by omega) (fun j _ hj => by rw [hj]; rfl))
                  rw [hin] at hl1
                  obtain ⟨w8, hr8, hm8, hg8⟩ := HM7.out.put (by unfold maxLen; have := HN7.out; omega) s[m]
                  have HM8 := Lib.hid hm8
                  have HQ8 := Lib.hid (HQ7.out.kept hg8 (fun g e => by cases e; rfl))
                  have S8 := Lib.hid (stands_grown S7.out hg8 (fun g e => by cases e; exact HBM.out))
                  have HPU := Lib.hid (HU7.out.push (c := s[m]) (by rw [HSL.out]; simp [ByteArray.getElem_eq_getElem_data]) (by omega) (by rw [HLL.out]; omega) (by rw [HLL.out]; exact h4x))
                  clear hm8 hg8 hin
                  go_wp2_with (at_builtin; refine wpList_append_qu rfl _ _ rfl i0 HI.out HZ0.out HZ1.out HZ2.out (w.heap.size + 1) w2.heap.size _ l2 rfl (HQ8.out.below (bnew _ _)) (by have := S8.out.size; simp; omega) (by have := HM8.out.lt; simp; omega) (by have := HLE.out; have := HBD.out; omega) s[m] ⟨_, 0, none⟩ 1 rfl (cell_one_new _ _ _) ?_)
                  intro v9 w9 row hq9 hg9 hr9
                  have HQ9 := Lib.hid hq9; have HG9 := Lib.hid hg9; have HR9 := Lib.hid hr9
                  clear hq9 hg9 hr9
                  go_wp2_with fail
                  go_roundw
                  case rel => exact ⟨m + 1, _, _, n2 + 1, by omega, by go_num, HQ9.out, (HM8.out.below (bnew _ _)).kept HG9.out (fun e => (HR9.out _ e.symm).2 rfl), by have := HUL.out; have := HN7.out; omega, by rw [HTK.out]; exact HPU.out, by have := HUL.out; have := HLE.out; rw [List.length_append]; simp; omega, stands_grown (S8.out.alloc _) HG9.out (fun g e => (HR9.out g e).1)⟩
                  case measure => simp [intOf]; omega
                · have HSE := Lib.hid (HU7.out.seen hin)
                  rw [hin] at hl1
                  clear hin
                  go_wp2_with fail
                  go_roundw
                  case rel => exact ⟨m + 1, l2, S2, n2, by omega, by go_num, HQ7.out, HM7.out, HN7.out, by rw [HTK.out]; exact HSE.out, HLE.out, S7.out⟩
                  case measure => simp [intOf]; omega
              · obtain rfl : m = s.size := by omega
                have HFN := Lib.hid (show Found (lss xs) k S2 l2 from by have h := HU7.out; rw [take_all s s.size (Nat.le_refl _), ← HSL.out] at h; exact h.leave)
                have HQL := Lib.hid HQ7.out.quLen
                have HL1 := Lib.hid (leftW_is HM7.out h4x)
                go_wp2_with fail
                go_roundw
                case rel => exact ⟨l2, S2, n2, HQ7.out, HM7.out, HN7.out, HFN.out, by have := HLE.out; have := HBD.out; omega, S7.out⟩
                case measure =>
                  rw [HQL.out, HL1.out, HL0.out]
                  show l2.length + 2 * unseen S2 xs.length < (l.length + 1) + 2 * unseen S xs.length
                  have := HLE.out
                  omega
  · have h2s := S2.out.size
    have SW := Lib.hid (stands_grown ((S2.out.alloc (.cells #[.int .u8 (t[0].toNat : Int)] 5)).alloc (.map #[] 0)).drew HgC.out (fun g e => by cases e; omega))
    have QW := Lib.hid ((((Qu.own (bm := w2.heap.size + 1) (base := w.heap.size + 1) (l := [t[0]]) (World.ownsRow_lit (base := w2.heap.size) (e := 5) (size := 1) w2 #[.int .u8 (t[0].toNat : Int)] 1 (Nat.le_refl _) (by unfold maxLen; omega) rfl) rfl (by omega) (by omega) (fun g e => by have e2 : w2.heap.size = g := Option.some.inj e; omega)).below (bnew _ (.map #[] 0))).below (bdrew _)).kept HgC.out (fun g e => by cases e; rfl))
    have MW := Lib.hid HmC.out
    have HBM := Lib.hid (show w.heap.size + 1 ≤ w2.heap.size + 1 by omega)
    clear hrA hrB hrC hmm
    go_wp2_with fail
    go_loopw [6] (fun v wr => ∃ (l : List UInt8) (S : Nat → Bool) (n : Nat), Qu wr (w.heap.size + 1) (w2.heap.size + 1) v l ∧ SetM wr (w2.heap.size + 1) n S ∧ n + unseen S xs.length ≤ 10 ∧ Found (lss xs) k S l ∧ l.length + 2 * unseen S xs.length ≤ 20 ∧ Stands w 33 (.slice A xs.length cp) wr) (fun v wr => quLen v + 2 * leftW wr (w2.heap.size + 1) xs.length)
    case atStart => exact ⟨_, _, 1, QW.out, MW.out, by have := unseen_top (fun j => false || j == t[0].toNat) xs.length; omega, FD.out, by have := unseen_top (fun j => false || j == t[0].toNat) xs.length; simp only [List.length_singleton]; omega, SW.out⟩
    case round =>
      clear QW MW SW FD
      obtain ⟨wo, rfl⟩ : ∃ wo, wo = wr := ⟨_, rfl⟩
      obtain ⟨l, S, n, hq, hm, hn, hf, hbd, hst⟩ := hrel
      have HM5 := Lib.hid hm; have HFO := Lib.hid hf; have S5 := Lib.hid hst; have HN := Lib.hid hn
      obtain ⟨g, off, cap, rfl⟩ := hq.len
      have HQ := Lib.hid hq
      clear hm hn hf hst hq
      cases l with
      | nil =>
        have HNM := Lib.hid ((HFO.out.names (img_in HX.out) (by rw [HLL.out]; exact hkx) (by rw [HLL.out]; exact h4x)).trans HF.out.symm)
        rw [List.length_nil]
        go_wp2_with fail
        go_loop [9, 59] (fun v i => ∃ (q : Nat) (out : ByteArray), q ≤ 4 ∧ out.data.toList = namesOf (fun j => S (97 + j)) q ∧ v = .string out ∧ i = .int .i64 q) (fun _ i => 4 - (intOf i).toNat)
        case atStart => exact ⟨0, ⟨#[]⟩, Nat.zero_le _, rfl, rfl, rfl⟩
        case round =>
          obtain ⟨q, out, hq, ho, rfl, rfl⟩ := hrel
          have hsz : out.size ≤ 4 := by have := names_len (fun j => S (97 + j)) q; rw [Lib.size_eq, ho]; omega
          have HOUT := Lib.hid ho; clear ho
          by_cases hql : q < 4
          · have e1 := abcd_at (k := q) (by omega)
            have e2 := abcd_ix2 (k := q) hql
            have es := ltr_size q
            have hl1 := HM5.out.look (lc q)
            rw [show S (lc q).toNat = S (97 + q) by rw [lc_nat hql]] at hl1
            have HNS := Lib.hid (names_step (fun j => S (97 + j)) q)
            cases hin : S (97 + q)
            · rw [hin] at hl1
              simp only [hin] at HNS
              clear hin
              go_wp2_with fail
              go_round
              case rel => exact ⟨q + 1, out, by omega, by rw [HNS.out, HOUT.out]; simp, rfl, by go_num⟩
              case measure => simp [intOf]; omega
            · rw [hin] at hl1
              simp only [hin] at HNS
              clear hin
              go_wp2_with fail
              go_round
              case rel => exact ⟨q + 1, _, by omega, by rw [data_append, HNS.out, HOUT.out, ltr_data]; rfl, rfl, by go_num⟩
              case measure => simp [intOf]; omega
          · obtain rfl : q = 4 := by omega
            have HM4 := Lib.hid (mk_list out (HOUT.out.trans HNM.out))
            go_wp2_with fail
            go_ret
            exact ⟨by rw [HM4.out] <;> rfl, S5.out.below⟩
      | cons c0 l =>
        obtain ⟨p1, p2, U⟩ := HFO.out.pop (by rw [HLL.out]; exact h4x)
        have HU := Lib.hid U
        obtain ⟨hln, hcap, hcell, q1, q2⟩ := Qu.pop HQ.out
        have HQ1 := Lib.hid q1; have HQ2 := Lib.hid q2
        have HBD := Lib.hid (show l.length + 1 + 2 * unseen S xs.length ≤ 20 from by rw [List.length_cons] at hbd; exact hbd)
        rw [HLL.out] at p2
        rw [List.length_cons]
        have c5 := S5.out.box
        have HIM := Lib.hid (fun W hR => image_any xs (.slice A xs.length cp) c0 W hR h4x (by omega) (by omega))
        obtain ⟨hz1, hz8, hwi⟩ := imgAt_ok HX.out (c := c0) p2
        have HSL := Lib.hid (lss_img p2)
        have HWI := Lib.hid hwi
        have HL0 := Lib.hid (leftW_is HM5.out h4x)
        obtain ⟨s, hs⟩ : ∃ s, s = imgAt xs c0 := ⟨_, rfl⟩
        rw [← hs] at HIM hz1 hz8 HSL HWI
        clear hs hwi q1 q2 U hbd hln
        go_wp2_with fail
        go_region_with (go_at_call 46; refine (HIM.out _ (S5.out.drew.row HA.out)).mono ?_; rintro e w6 ⟨rfl, hb6⟩; have HB6 := Lib.hid (bthen (bdrew wo) hb6); clear hb6)
        all_goals
          have S6 := Lib.hid (S5.out.on HB6.out)
          have M6 := Lib.hid (HM5.out.below HB6.out)
          by_cases hc1 : cap = 1
          · have HQ6 := Lib.hid ((HQ2.out hc1).below HB6.out)
            subst hc1
            obtain rfl : l = [] := List.eq_nil_of_length_eq_zero (by omega)
            go_wp2_with fail
            go_loopw [6, 39] (fun v i wr => ∃ (m : Nat) (l2 : List UInt8) (S2 : Nat → Bool) (n2 : Nat), m ≤ s.size ∧ i = .int .i64 m ∧ Qu wr (w.heap.size + 1) (w2.heap.size + 1) v l2 ∧ SetM wr (w2.heap.size + 1) n2 S2 ∧ n2 + unseen S2 xs.length ≤ 10 ∧ Under (lss xs) k (c0.toNat - 97) S2 l2 (s.data.toList.take m) ∧ l2.length + 2 * unseen S2 xs.length ≤ 0 + 2 * unseen S xs.length ∧ Stands w 33 (.slice A xs.length cp) wr) (fun _ i _ => s.size - (intOf i).toNat)
            case atStart => exact ⟨0, [], S, n, Nat.zero_le _, rfl, HQ6.out, M6.out, HN.out, HU.out, Nat.le_refl _, S6.out⟩
            case round =>
              clear HQ6 S6 M6
              obtain ⟨wi, rfl⟩ : ∃ wi, wi = wr := ⟨_, rfl⟩
              obtain ⟨m, l2, S2, n2, hm, rfl, hq, hmm2, hn2, hu, hle, hst⟩ := hrel
              have HQ7 := Lib.hid hq; have HM7 := Lib.hid hmm2; have HN7 := Lib.hid hn2; have HU7 := Lib.hid hu; have HLE := Lib.hid hle; have S7 := Lib.hid hst
              clear hq hmm2 hn2 hu hle hst
              by_cases hml : m < s.size
              · obtain ⟨b1, b2, b3⟩ := wordIn_byte HWI.out m hml
                have hl1 := HM7.out.look s[m]
                have HTK := Lib.hid (take_snoc s m hml)
                cases hin : S2 s[m].toNat
                · have HUL := Lib.hid (unseen_lt (S := S2) (S' := fun j => S2 j || j == s[m].toNat) (j := s[m].toNat - 97) (N := xs.length) (by rw [show 97 + (s[m].toNat - 97) = s[m].toNat by omega]; exact hin) (by rw [show 97 + (s[m].toNat - 97) = s[m].toNat by omega]; simp) (by omega) (fun j _ hj => by rw [hj]; rfl))
                  rw [hin] at hl1
                  obtain ⟨w8, hr8, hm8, hg8⟩ := HM7.out.put (by unfold maxLen; have := HN7.out; omega) s[m]
                  have HM8 := Lib.hid hm8
                  have HQ8 := Lib.hid (HQ7.out.kept hg8 (fun g e => by cases e; rfl))
                  have S8 := Lib.hid (stands_grown S7.out hg8 (fun g e => by cases e; exact HBM.out))
                  have HPU := Lib.hid (HU7.out.push (c := s[m]) (by rw [HSL.out]; simp [ByteArray.getElem_eq_getElem_data]) (by omega) (by rw [HLL.out]; omega) (by rw [HLL.out]; exact h4x))
                  clear hm8 hg8 hin
                  go_wp2_with (at_builtin; refine wpList_append_qu rfl _ _ rfl i0 HI.out HZ0.out HZ1.out HZ2.out (w.heap.size + 1) (w2.heap.size + 1) _ l2 rfl (HQ8.out.below (bnew _ _)) (by have := S8.out.size; simp; omega) (by have := HM8.out.lt; simp; omega) (by have := HLE.out; have := HBD.out; omega) s[m] ⟨_, 0, none⟩ 1 rfl (cell_one_new _ _ _) ?_)
                  intro v9 w9 row hq9 hg9 hr9
                  have HQ9 := Lib.hid hq9; have HG9 := Lib.hid hg9; have HR9 := Lib.hid hr9
                  clear hq9 hg9 hr9
                  go_wp2_with fail
                  go_roundw
                  case rel => exact ⟨m + 1, _, _, n2 + 1, by omega, by go_num, HQ9.out, (HM8.out.below (bnew _ _)).kept HG9.out (fun e => (HR9.out _ e.symm).2 rfl), by have := HUL.out; have := HN7.out; omega, by rw [HTK.out]; exact HPU.out, by have := HUL.out; have := HLE.out; rw [List.length_append]; simp; omega, stands_grown (S8.out.alloc _) HG9.out (fun g e => (HR9.out g e).1)⟩
                  case measure => simp [intOf]; omega
                · have HSE := Lib.hid (HU7.out.seen hin)
                  rw [hin] at hl1
                  clear hin
                  go_wp2_with fail
                  go_roundw
                  case rel => exact ⟨m + 1, l2, S2, n2, by omega, by go_num, HQ7.out, HM7.out, HN7.out, by rw [HTK.out]; exact HSE.out, HLE.out, S7.out⟩
                  case measure => simp [intOf]; omega
              · obtain rfl : m = s.size := by omega
                have HFN := Lib.hid (show Found (lss xs) k S2 l2 from by have h := HU7.out; rw [take_all s s.size (Nat.le_refl _), ← HSL.out] at h; exact h.leave)
                have HQL := Lib.hid HQ7.out.quLen
                have HL1 := Lib.hid (leftW_is HM7.out h4x)
                go_wp2_with fail
                go_roundw
                case rel => exact ⟨l2, S2, n2, HQ7.out, HM7.out, HN7.out, HFN.out, by have := HLE.out; have := HBD.out; omega, S7.out⟩
                case measure =>
                  rw [HQL.out, HL1.out, HL0.out]
                  show l2.length + 2 * unseen S2 xs.length < 0 + 1 + 2 * unseen S xs.length
                  have := HLE.out
                  omega
          · have HQ6 := Lib.hid (HQ1.out.below HB6.out)
            go_wp2_with fail
            go_loopw [6, 39] (fun v i wr => ∃ (m : Nat) (l2 : List UInt8) (S2 : Nat → Bool) (n2 : Nat), m ≤ s.size ∧ i = .int .i64 m ∧ Qu wr (w.heap.size + 1) (w2.heap.size + 1) v l2 ∧ SetM wr (w2.heap.size + 1) n2 S2 ∧ n2 + unseen S2 xs.length ≤ 10 ∧ Under (lss xs) k (c0.toNat - 97) S2 l2 (s.data.toList.take m) ∧ l2.length + 2 * unseen S2 xs.length ≤ l.length + 2 * unseen S xs.length ∧ Stands w 33 (.slice A xs.length cp) wr) (fun _ i _ => s.size - (intOf i).toNat)
            case atStart => exact ⟨0, l, S, n, Nat.zero_le _, rfl, HQ6.out, M6.out, HN.out, HU.out, Nat.le_refl _, S6.out⟩
            case round =>
              clear HQ6 S6 M6
              obtain ⟨wi, rfl⟩ : ∃ wi, wi = wr := ⟨_, rfl⟩
              obtain ⟨m, l2, S2, n2, hm, rfl, hq, hmm2, hn2, hu, hle, hst⟩ := hrel
              have HQ7 := Lib.hid hq; have HM7 := Lib.hid hmm2; have HN7 := Lib.hid hn2; have HU7 := Lib.hid hu; have HLE := Lib.hid hle; have S7 := Lib.hid hst
              clear hq hmm2 hn2 hu hle hst
              by_cases hml : m < s.size
              · obtain ⟨b1, b2, b3⟩ := wordIn_byte HWI.out m hml
                have hl1 := HM7.out.look s[m]
                have HTK := Lib.hid (take_snoc s m hml)
                cases hin : S2 s[m].toNat
                · have HUL := Lib.hid (unseen_lt (S := S2) (S' := fun j => S2 j || j == s[m].toNat) (j := s[m].toNat - 97) (N := xs.length) (by rw [show 97 + (s[m].toNat - 97) = s[m].toNat by omega]; exact hin) (by rw [show 97 + (s[m].toNat - 97) = s[m].toNat by omega]; simp) (by omega) (fun j _ hj => by rw [hj]; rfl))
                  rw [hin] at hl1
                  obtain ⟨w8, hr8, hm8, hg8⟩ := HM7.out.put (by unfold maxLen; have := HN7.out; omega) s[m]
                  have HM8 := Lib.hid hm8
                  have HQ8 := Lib.hid (HQ7.out.kept hg8 (fun g e => by cases e; rfl))
                  have S8 := Lib.hid (stands_grown S7.out hg8 (fun g e => by cases e; exact HBM.out))
                  have HPU := Lib.hid (HU7.out.push (c := s[m]) (by rw [HSL.out]; simp [ByteArray.getElem_eq_getElem_data]) (by omega) (by rw [HLL.out]; omega) (by rw [HLL.out]; exact h4x))
                  clear hm8 hg8 hin
                  go_wp2_with (at_builtin; refine wpList_append_qu rfl _ _ rfl i0 HI.out HZ0.out HZ1.out HZ2.out (w.heap.size + 1) (w2.heap.size + 1) _ l2 rfl (HQ8.out.below (bnew _ _)) (by have := S8.out.size; simp; omega) (by have := HM8.out.lt; simp; omega) (by have := HLE.out; have := HBD.out; omega) s[m] ⟨_, 0, none⟩ 1 rfl (cell_one_new _ _ _) ?_)
                  intro v9 w9 row hq9 hg9 hr9
                  have HQ9 := Lib.hid hq9; have HG9 := Lib.hid hg9; have HR9 := Lib.hid hr9
                  clear hq9 hg9 hr9
                  go_wp2_with fail
                  go_roundw
                  case rel => exact ⟨m + 1, _, _, n2 + 1, by omega, by go_num, HQ9.out, (HM8.out.below (bnew _ _)).kept HG9.out (fun e => (HR9.out _ e.symm).2 rfl), by have := HUL.out; have := HN7.out; omega, by rw [HTK.out]; exact HPU.out, by have := HUL.out; have := HLE.out; rw [List.length_append]; simp; omega, stands_grown (S8.out.alloc _) HG9.out (fun g e => (HR9.out g e).1)⟩
                  case measure => simp [intOf]; omega
                · have HSE := Lib.hid (HU7.out.seen hin)
                  rw [hin] at hl1
                  clear hin
                  go_wp2_with fail
                  go_roundw
                  case rel => exact ⟨m + 1, l2, S2, n2, by omega, by go_num, HQ7.out, HM7.out, HN7.out, by rw [HTK.out]; exact HSE.out, HLE.out, S7.out⟩
                  case measure => simp [intOf]; omega
              · obtain rfl : m = s.size := by omega
                have HFN := Lib.hid (show Found (lss xs) k S2 l2 from by have h := HU7.out; rw [take_all s s.size (Nat.le_refl _), ← HSL.out] at h; exact h.leave)
                have HQL := Lib.hid HQ7.out.quLen
                have HL1 := Lib.hid (leftW_is HM7.out h4x)
                go_wp2_with fail
                go_roundw
                case rel => exact ⟨l2, S2, n2, HQ7.out, HM7.out, HN7.out, HFN.out, by have := HLE.out; have := HBD.out; omega, S7.out⟩
                case measure =>
                  rw [HQL.out, HL1.out, HL0.out]
                  show l2.length + 2 * unseen S2 xs.length < (l.length + 1) + 2 * unseen S xs.length
                  have := HLE.out
                  omega
end Go.Proofs.Ytciiokegifgbdaa
/- Walks: is a word a factor of another one. -/
namespace Go.Proofs.Ytciiokegifgbdaa
open Go.RowKit

/-- f stands somewhere in s -/
def hasB (s f : ByteArray) : Bool := (List.range (s.size + 1 - f.size)).any (standsAt s f)
theorem has_yes {s f : ByteArray} {i : Nat} (h : i + f.size ≤ s.size) (h2 : standsAt s f i = true) : hasB s f = true :=
  List.any_eq_true.2 ⟨i, List.mem_range.2 (by omega), h2⟩
theorem has_no {s f : ByteArray} (h : ∀ i, i + f.size ≤ s.size → standsAt s f i = false) : hasB s f = false := by
  rw [← Bool.not_eq_true]
  intro h2
  obtain ⟨i, hi, hst⟩ := List.any_eq_true.1 h2
  rw [h i (by have := List.mem_range.1 hi; omega)] at hst
  cases hst
end Go.Proofs.Ytciiokegifgbdaa
/- Walks: is a word a factor of another one; the letters after or before a factor. -/
namespace Go.Proofs.Ytciiokegifgbdaa
open Go.RowKit

theorem first_of (p : Nat → Bool) : ∀ n, p n = true → ∃ i, i ≤ n ∧ p i = true ∧ ∀ j, j < i → p j = false := by
  intro n
  induction n using Nat.strongRecOn with
  | ind n ih =>
    intro h
    by_cases hn : ∃ j, j < n ∧ p j = true
    · obtain ⟨j, hj, hp⟩ := hn
      obtain ⟨i, hi, h1, h2⟩ := ih j hj hp
      exact ⟨i, by omega, h1, h2⟩
    · refine ⟨n, Nat.le_refl _, h, fun j hj => ?_⟩
      cases hp : p j
      · rfl
      · exact absurd ⟨j, hj, hp⟩ hn
theorem stands_occ {s f : ByteArray} {i : Nat} (h : i + f.size ≤ s.size) : standsAt s f i = Lib.occAt s.data.toList f.data.toList i := by
  rw [Lib.occAt_iff_take _ _ _ (by rw [← Lib.size_eq, ← Lib.size_eq]; exact h)]
  unfold standsAt
  rw [Lib.toList_data, Lib.toList_data, ByteArray.data_extract, Array.toList_extract, List.extract_eq_take_drop, ← Lib.size_eq, show i + f.size - i = f.size by omega]
theorem contains_has (s f : ByteArray) : Lib.contains s.data.toList f.data.toList = hasB s f := by
  unfold Lib.contains
  cases hb : hasB s f
  · rw [Lib.index_none]
    · rfl
    · intro j _
      cases ho : Lib.occAt s.data.toList f.data.toList j
      · rfl
      · rcases Lib.occAt_room ho with h | h
        · rw [← Lib.size_eq, ← Lib.size_eq] at h
          rw [← stands_occ h] at ho
          rw [has_yes h ho] at hb; cases hb
        · have h0 : f.size = 0 := by rw [Lib.size_eq, h]; rfl
          have hs0 : standsAt s f 0 = true := by rw [stands_occ (by omega), h]; rfl
          rw [has_yes (by omega) hs0] at hb; cases hb
  · obtain ⟨i, hi, hst⟩ := List.any_eq_true.1 hb
    have hi2 : i + f.size ≤ s.size := by have := List.mem_range.1 hi; omega
    rw [stands_occ hi2] at hst
    obtain ⟨j, hj, h1, h2⟩ := first_of _ i hst
    rw [Lib.index_first (by rw [← Lib.size_eq]; omega) h1 h2]
    simp
def factB (s f : ByteArray) : Bool := wordB s.data.toList && (wordB f.data.toList && hasB s f)
set_option maxHeartbeats 400000 in
theorem implIsFactor_any (s f : ByteArray) (w : World) (m : Int) (hm : w.cell? ⟨0, 0, none⟩ = some (.int .i64 m)) (hs : s.size ≤ maxLen) (hf : f.size ≤ maxLen) :
    Calls Try.prog 27 #[.string s, .string f] w fun e w' => e = .returned (.bool (factB s f)) ∧ w' = w := by
  cases b1 : wordB s.data.toList
  · have HP := Lib.hid (show factB s f = false by unfold factB; rw [b1]; rfl)
    go_enter Try.func27, Try.ntmps27
    go_wp2_with (go_at_call 47; refine (isWord_any _ _ hs).mono ?_; rw [b1]; rintro e w' ⟨rfl, rfl⟩)
    go_ret
    exact ⟨by rw [HP.out] <;> rfl, rfl⟩
  have HB1 := Lib.hid b1
  cases b2 : wordB f.data.toList
  · have HP := Lib.hid (show factB s f = false by unfold factB; rw [b1, b2]; rfl)
    clear b1
    go_enter Try.func27, Try.ntmps27
    go_wp2_with fail
    refine (isWord_any _ _ hs).mono ?_
    rw [HB1.out]
    rintro e w' ⟨rfl, rfl⟩
    go_wp2_with fail
    refine (isWord_any _ _ hf).mono ?_
    rw [b2]
    rintro e w' ⟨rfl, rfl⟩
    go_wp2_with fail
    go_ret
    exact ⟨by rw [HP.out] <;> rfl, rfl⟩
  · have HP := Lib.hid (show factB s f = hasB s f by unfold factB; rw [b1, b2]; rfl)
    have HB2 := Lib.hid b2
    have HC := Lib.hid (Try.strings_Contains s f m w (by have := word_len b1; omega) hm)
    clear b1 b2
    go_enter Try.func27, Try.ntmps27
    go_wp2_with fail
    refine (isWord_any _ _ hs).mono ?_
    rw [HB1.out]
    rintro e w' ⟨rfl, rfl⟩
    go_wp2_with fail
    refine (isWord_any _ _ hf).mono ?_
    rw [HB2.out]
    rintro e w' ⟨rfl, rfl⟩
    go_wp2_with fail
    refine HC.out.mono ?_
    rintro e w' ⟨rfl, rfl⟩
    go_wp2_with fail
    go_ret
    exact ⟨by rw [HP.out, ← contains_has] <;> rfl, rfl⟩
/-- the letters of the first k that make a factor with f, behind it or before it -/
def nbIx (s f : ByteArray) (b : Bool) (k : Nat) : List UInt8 := ((List.range k).filter fun j => hasB s (if b = true then f ++ ltr j else ltr j ++ f)).map lc
theorem nbIx_yes {s f : ByteArray} {b : Bool} {k : Nat} (h : hasB s (if b = true then f ++ ltr k else ltr k ++ f) = true) : nbIx s f b (k + 1) = nbIx s f b k ++ [lc k] := by
  unfold nbIx; rw [List.range_succ, List.filter_append]; simp [h]
theorem nbIx_no {s f : ByteArray} {b : Bool} {k : Nat} (h : hasB s (if b = true then f ++ ltr k else ltr k ++ f) = false) : nbIx s f b (k + 1) = nbIx s f b k := by
  unfold nbIx; rw [List.range_succ, List.filter_append]; simp [h]
theorem nbIx_len (s f : ByteArray) (b : Bool) (k : Nat) : (nbIx s f b k).length ≤ k := by
  unfold nbIx; rw [List.length_map]; have := List.length_filter_le (fun j => hasB s (if b = true then f ++ ltr j else ltr j ++ f)) (List.range k); simpa using this
def nbR (s f : ByteArray) (b : Bool) : List UInt8 := if wordB s.data.toList = true ∧ wordB f.data.toList = true then nbIx s f b 4 else []
theorem nb_out {s f : ByteArray} {b : Bool} (h : ¬ (wordB s.data.toList = true ∧ wordB f.data.toList = true)) : nbR s f b = [] := by unfold nbR; rw [if_neg h]
theorem nb_in {s f : ByteArray} {b : Bool} (h : wordB s.data.toList = true) (h2 : wordB f.data.toList = true) : nbR s f b = nbIx s f b 4 := by unfold nbR; rw [if_pos ⟨h, h2⟩]
end Go.Proofs.Ytciiokegifgbdaa
/- Walks: words in reverse order. -/
namespace Go.Proofs.Ytciiokegifgbdaa
open Go.RowKit

theorem turn_get (l : List UInt8) (k : Nat) (h : k < l.length) : (List.replicate (l.length - k) (Value.int .u8 0) ++ (l.take k).reverse.map byteV)[l.length - 1 - k]? = some (.int .u8 0) := by
  rw [List.getElem?_append_left (by simp; omega), List.getElem?_replicate, if_pos (by omega)]
theorem turn_set (l : List UInt8) (k : Nat) (h : k < l.length) : (List.replicate (l.length - k) (Value.int .u8 0) ++ (l.take k).reverse.map byteV).set (l.length - 1 - k) (byteV l[k]) =
    List.replicate (l.length - (k + 1)) (Value.int .u8 0) ++ (l.take (k + 1)).reverse.map byteV := by
  rw [List.set_append_left _ _ (by simp; omega), show l.length - k = (l.length - (k + 1)) + 1 by omega, List.replicate_succ']
  rw [List.set_append_right _ _ (by simp; omega), List.length_replicate, show l.length - 1 - k - (l.length - (k + 1)) = 0 by omega, List.set_cons_zero, List.take_succ_eq_append_getElem h, List.reverse_append, List.append_assoc]
  rfl
end Go.Proofs.Ytciiokegifgbdaa
/- Walks: the laws' own helpers on a substitution that came back: marked, held. -/
namespace Go.Proofs.Ytciiokegifgbdaa
open Go.RowKit
set_option maxRecDepth 20000

theorem types_box : (33 : TypeId) ≠ 9 := by decide
end Go.Proofs.Ytciiokegifgbdaa
