/- Walks: the factors with more than one neighbor. -/
import Derived.Test.YtflpnbbdfjcggaaFac3
import Derived.Test.YtflpnbbdfjcggaaHas
import Derived.Deep.AppendLies
namespace Go.Proofs.Ytflpnbbdfjcggaa
open Go.RowKit
set_option maxRecDepth 20000

/-- the factors with more than one neighbor -/
def spP (s : ByteArray) (b : Bool) (f : List UInt8) : Bool := decide (1 < (nbIx s (mkB f) b 4).length)
def spL (s : ByteArray) (n : Nat) (b : Bool) : List (List UInt8) := (facR s n).filter (spP s b)
def spR (s : ByteArray) (n : Int) (b : Bool) : List ByteArray := if lenB s.data.toList n = true then (spL s n.toNat b).map mkB else []
theorem sp_no {s : ByteArray} {n : Int} {b : Bool} (h : lenB s.data.toList n = false) : spR s n b = [] := by unfold spR; rw [h]; rfl
theorem sp_yes {s : ByteArray} {n : Nat} {b : Bool} (h : lenB s.data.toList n = true) : spR s n b = (spL s n b).map mkB := by unfold spR; rw [if_pos h]; rfl
theorem spR_len (s : ByteArray) (n : Int) (b : Bool) : (spR s n b).length ≤ s.size + 1 := by
  unfold spR; split
  · rw [List.length_map]; have h1 := facR_len s n.toNat; have h2 := List.length_filter_le (spP s b) (facR s n.toNat); unfold spL; omega
  · simp
theorem filter_yes {l : List (List UInt8)} {p : List UInt8 → Bool} {k : Nat} (h : k < l.length) (hp : p l[k] = true) : (l.take (k + 1)).filter p = (l.take k).filter p ++ [l[k]] := by
  rw [List.take_succ_eq_append_getElem h, List.filter_append]; simp [hp]
theorem filter_no {l : List (List UInt8)} {p : List UInt8 → Bool} {k : Nat} (h : k < l.length) (hp : p l[k] = false) : (l.take (k + 1)).filter p = (l.take k).filter p := by
  rw [List.take_succ_eq_append_getElem h, List.filter_append]; simp [hp]
theorem facR_size {s : ByteArray} {n : Nat} {f : List UInt8} (h : f ∈ facR s n) : f.length ≤ s.size := by
  have h2 := ((srt_facts (wins s n (s.size + 1 - n))).2 f).1 h
  simp only [wins, List.mem_map, List.mem_range] at h2
  obtain ⟨i, _, rfl⟩ := h2
  unfold win
  rw [← Lib.size_eq, ByteArray.size_extract]
  omega
set_option maxHeartbeats 2000000 in
theorem l06Special_any (s : ByteArray) (n : Nat) (b : Bool) (w : World) (hs : s.size ≤ 400) (h1 : 1 ≤ n) (h4 : n ≤ 400) :
    Calls Try.prog 70 #[.string s, .int .i64 n, .bool b] w fun e w' => ∃ v, e = .returned v ∧ w'.ownsRow w.heap.size 9 1 v (spL s n (!b)).length ((spL s n (!b)).map encStr) ∧ Below w.heap.size w w' := by
  obtain ⟨i0, hi, hz0, hz1, hz2⟩ := info_parts info_strF
  have HI := Lib.hid hi; have HZ0 := Lib.hid hz0; have HZ1 := Lib.hid hz1; have HZ2 := Lib.hid hz2
  clear hi hz0 hz1 hz2
  have HO0 := Lib.hid (World.ownsRow_made (base := w.heap.size) (e := 9) (size := 1) w #[] 0 (Nat.le_refl _) (Nat.zero_le _) rfl)
  have HC := Lib.hid (l05Factors_any s n (w.alloc (.cells #[] 9)) hs h1 (by omega))
  have hfl := facR_len s n
  have HFS := Lib.hid (fun f h => facR_size (s := s) (n := n) (f := f) h)
  have HSP := Lib.hid (show spL s n (!b) = (facR s n).filter (spP s (!b)) from rfl)
  go_enter Try.func70, Try.ntmps70
  go_wp2_with fail
  refine HC.out.mono ?_
  rintro e w1 ⟨g, c, rfl, ho, hb1⟩
  have HF := Lib.hid ho
  have HB1 := Lib.hid (bthen (bnew w (.cells #[] 9)) hb1)
  have HO1 := Lib.hid (own_below HO0.out hb1)
  clear ho hb1
  obtain ⟨l, hl⟩ : ∃ l, l = facR s n := ⟨_, rfl⟩
  rw [← hl] at HF HFS HSP hfl ⊢
  clear hl
  go_wp2_with fail
  have HNE0 := Lib.hid (show (Value.slice (some ⟨w.heap.size, 0, none⟩) 0 0).ownBlock ≠ some g from fun e => by have h := (own_lt HF.out (g := g) rfl).1; simp [Value.ownBlock] at e h; omega)
  go_loopw [7, 15] (fun v i wr => ∃ (k : Nat) (u : Value), v = u ∧ k ≤ l.length ∧ i = .int .i64 k ∧ wr.ownsRow w.heap.size 9 1 u ((l.take k).filter (spP s (!b))).length (((l.take k).filter (spP s (!b))).map encStr) ∧ wr.ownsRow (w.alloc (.cells #[] 9)).heap.size 9 1 (.slice (some ⟨g, 0, none⟩) l.length c) l.length (l.map encStr) ∧ u.ownBlock ≠ some g ∧ Below w.heap.size w wr) (fun _ i _ => l.length - (intOf i).toNat)
  case atStart => exact ⟨0, _, rfl, Nat.zero_le _, rfl, by simpa using HO1.out, HF.out, HNE0.out, HB1.out⟩
  case round =>
    obtain ⟨k, u, rfl, hk, rfl, ho, hrow, hne, hb⟩ := hrel
    have HO := Lib.hid ho; have HB := Lib.hid hb; have HL := Lib.hid hrow; have HNE := Lib.hid hne
    have hfl2 := List.length_filter_le (spP s (!b)) (l.take k)
    rw [List.length_take] at hfl2
    clear ho hb hrow hne
    by_cases hlt : k < l.length
    · have g1 := HL.out.cellAt k (by omega)
      have hsz := HFS.out _ (List.getElem_mem hlt)
      have hget : (l.map encStr)[k]? = some (.string (mkB l[k])) := by rw [List.getElem?_map, List.getElem?_eq_getElem hlt]; rfl
      rw [hget] at g1
      have HY := Lib.hid (fun h => filter_yes (p := spP s (!b)) hlt h)
      have HN := Lib.hid (fun h => filter_no (p := spP s (!b)) hlt h)
      obtain ⟨f, hf⟩ : ∃ f, f = l[k] := ⟨_, rfl⟩
      rw [← hf] at g1 hsz HY HN
      have HX := Lib.hid (l06Next_any s (mkB f) b wr hs (by have : (mkB f).size = f.length := rfl; omega))
      obtain ⟨r, hr⟩ : ∃ r : ByteArray, r = ⟨(nbIx s (mkB f) (!b) 4).toArray⟩ := ⟨_, rfl⟩
      rw [← hr] at HX
      have hrs : r.size = (nbIx s (mkB f) (!b) 4).length := by rw [hr]; rfl
      have hn4 := nbIx_len s (mkB f) (!b) 4
      have HE := Lib.hid (show encStr f = .string (mkB f) from rfl)
      obtain ⟨fb, hfb⟩ : ∃ fb, fb = mkB f := ⟨_, rfl⟩
      rw [← hfb] at g1 HX HE
      cases hp : spP s (!b) f
      · have h2 : ¬ 1 < r.size := by rw [hrs]; unfold spP at hp; simpa using hp
        have HN2 := Lib.hid (HN.out hp)
        have hr4 : r.size ≤ 4 := by omega
        clear hget hf hr hrs hn4 hp hsz hfb
        go_wp2_with fail
        refine HX.out.mono ?_
        rintro e w2 ⟨rfl, rfl⟩
        go_wp2_with fail
        go_roundw
        case rel => exact ⟨k + 1, _, rfl, by omega, by go_num, by rw [HN2.out]; exact HO.out, HL.out, HNE.out, HB.out⟩
        case measure => simp [intOf]; omega
      · have h2 : 1 < r.size := by rw [hrs]; unfold spP at hp; simpa using hp
        have HN2 := Lib.hid (HY.out hp)
        have hr4 : r.size ≤ 4 := by omega
        clear hget hf hr hrs hn4 hp hsz hfb
        go_wp2_with fail
        refine HX.out.mono ?_
        rintro e w2 ⟨rfl, rfl⟩
        go_wp2_with (at_builtin; refine wpList_append_lies _ rfl _ _ 28 rfl w.heap.size 9 i0 (.string ByteArray.empty) 1 16 Try.underlying28 HI.out HZ0.out HZ1.out HZ2.out rfl (by decide) _ _ _ rfl (HO.out.alloc _) ⟨_, 0, none⟩ 1 1 [.string fb] rfl rfl (cell_one_new _ _ _) (by intro u hu; simp at hu; subst hu; rfl) (by omega) (by unfold maxLen; omega) (by omega) (by have := HB.out.size; simp; omega) _ rfl ?_)
        intro g2 c2 w3 hown' hgrow hat _
        have HB3 := Lib.hid (since_grown (bthen HB.out (bnew _ _)) hgrow (fun g' hg' => (own_lt HO.out hg').1))
        have HL3 := Lib.hid ((HL.out.alloc (.cells #[.string fb] 9)).kept hgrow (.inr (fun e => HNE.out e.symm)))
        have HNE3 := Lib.hid (show (Value.slice (some ⟨g2, 0, none⟩) (((l.take k).filter (spP s (!b))).length + 1) c2).ownBlock ≠ some g from fun e => by
          have e2 : g2 = g := by simpa [Value.ownBlock] using e
          subst e2
          rcases hat with h | h
          · exact HNE.out h
          · have := (own_lt HL.out (g := g2) rfl).2
            (try simp at h); omega)
        have HO3 := Lib.hid hown'
        clear hown' hgrow hat
        go_wp2_with fail
        go_roundw
        case rel => exact ⟨k + 1, _, rfl, by omega, by go_num, by rw [HN2.out, List.map_append, List.length_append]; simpa [HE.out] using HO3.out, HL3.out, HNE3.out, HB3.out⟩
        case measure => simp [intOf]; omega
    · obtain rfl : k = l.length := by omega
      rw [List.take_length, ← HSP.out] at HO
      go_wp2_with fail
      go_ret
      exact ⟨_, rfl, HO.out, HB.out⟩
set_option maxHeartbeats 2000000 in
theorem special_any (s : ByteArray) (n : Nat) (b : Bool) (w : World) (m : Int) (hm : w.cell? ⟨0, 0, none⟩ = some (.int .i64 m)) (hlen : lenB s.data.toList n = true) :
    Calls Try.prog 71 #[.string s, .int .i64 n, .bool b] w fun e w' => ∃ v, e = .returned v ∧ w'.ownsRow w.heap.size 9 1 v (spL s n b).length ((spL s n b).map encStr) ∧ Below w.heap.size w w' := by
  obtain ⟨hw1, h1, h4⟩ := lenB_parts hlen
  have h1 : 1 ≤ n := by omega
  have h4 : n ≤ 400 := by omega
  have hs := word_len hw1
  have HM0 := Lib.hid (show 0 < w.heap.size from World.block_lt_of_cell? w _ hm)
  have HM := Lib.hid hm
  have HLEN := Lib.hid hlen
  clear hm hlen hw1
  obtain ⟨i0, hi, hz0, hz1, hz2⟩ := info_parts info_strF
  have HI := Lib.hid hi; have HZ0 := Lib.hid hz0; have HZ1 := Lib.hid hz1; have HZ2 := Lib.hid hz2
  clear hi hz0 hz1 hz2
  have HO0 := Lib.hid (World.ownsRow_made (base := w.heap.size) (e := 9) (size := 1) w #[] 0 (Nat.le_refl _) (Nat.zero_le _) rfl)
  have HC := Lib.hid (factorsOf_any s n (w.alloc (.cells #[] 9)) hs h1 (by omega))
  have hfl := facR_len s n
  have HFS := Lib.hid (fun f h => facR_size (s := s) (n := n) (f := f) h)
  have HSP := Lib.hid (show spL s n b = (facR s n).filter (spP s b) from rfl)
  go_enter Try.func71, Try.ntmps71
  go_wp2_with (go_at_call 54; refine (isLength_any _ _ _ (by unfold maxLen; omega)).mono ?_; rw [HLEN.out]; rintro e w' ⟨rfl, hww⟩; cases hww.symm)
  refine HC.out.mono ?_
  rintro e w1 ⟨g, c, rfl, ho, hb1⟩
  have HF := Lib.hid ho
  have HB1 := Lib.hid (bthen (bnew w (.cells #[] 9)) hb1)
  have HO1 := Lib.hid (own_below HO0.out hb1)
  clear ho hb1
  obtain ⟨l, hl⟩ : ∃ l, l = facR s n := ⟨_, rfl⟩
  rw [← hl] at HF HFS HSP hfl ⊢
  clear hl
  go_wp2_with fail
  have HNE0 := Lib.hid (show (Value.slice (some ⟨w.heap.size, 0, none⟩) 0 0).ownBlock ≠ some g from fun e => by have h := (own_lt HF.out (g := g) rfl).1; simp [Value.ownBlock] at e h; omega)
  go_loopw [7, 19] (fun v i wr => ∃ (k : Nat) (u : Value), v = u ∧ k ≤ l.length ∧ i = .int .i64 k ∧ wr.ownsRow w.heap.size 9 1 u ((l.take k).filter (spP s b)).length (((l.take k).filter (spP s b)).map encStr) ∧ wr.ownsRow (w.alloc (.cells #[] 9)).heap.size 9 1 (.slice (some ⟨g, 0, none⟩) l.length c) l.length (l.map encStr) ∧ u.ownBlock ≠ some g ∧ Below w.heap.size w wr) (fun _ i _ => l.length - (intOf i).toNat)
  case atStart => exact ⟨0, _, rfl, Nat.zero_le _, rfl, by simpa using HO1.out, HF.out, HNE0.out, HB1.out⟩
  case round =>
    obtain ⟨k, u, rfl, hk, rfl, ho, hrow, hne, hb⟩ := hrel
    have HO := Lib.hid ho; have HB := Lib.hid hb; have HL := Lib.hid hrow; have HNE := Lib.hid hne
    have hfl2 := List.length_filter_le (spP s b) (l.take k)
    rw [List.length_take] at hfl2
    clear ho hb hrow hne
    by_cases hlt : k < l.length
    · have g1 := HL.out.cellAt k (by omega)
      have hsz := HFS.out _ (List.getElem_mem hlt)
      have hget : (l.map encStr)[k]? = some (.string (mkB l[k])) := by rw [List.getElem?_map, List.getElem?_eq_getElem hlt]; rfl
      rw [hget] at g1
      have HY := Lib.hid (fun h => filter_yes (p := spP s b) hlt h)
      have HN := Lib.hid (fun h => filter_no (p := spP s b) hlt h)
      obtain ⟨f, hf⟩ : ∃ f, f = l[k] := ⟨_, rfl⟩
      rw [← hf] at g1 hsz HY HN
      have HX := Lib.hid (neighbors_any s (mkB f) b wr m ((HB.out.cell (p := ⟨0, 0, none⟩) HM0.out).trans HM.out) hs (by have : (mkB f).size = f.length := rfl; omega))
      obtain ⟨r, hr⟩ : ∃ r : ByteArray, r = ⟨(nbIx s (mkB f) b 4).toArray⟩ := ⟨_, rfl⟩
      rw [← hr] at HX
      have hrs : r.size = (nbIx s (mkB f) b 4).length := by rw [hr]; rfl
      have hn4 := nbIx_len s (mkB f) b 4
      have HE := Lib.hid (show encStr f = .string (mkB f) from rfl)
      obtain ⟨fb, hfb⟩ : ∃ fb, fb = mkB f := ⟨_, rfl⟩
      rw [← hfb] at g1 HX HE
      cases hp : spP s b f
      · have h2 : ¬ 1 < r.size := by rw [hrs]; unfold spP at hp; simpa using hp
        have HN2 := Lib.hid (HN.out hp)
        have hr4 : r.size ≤ 4 := by omega
        clear hget hf hr hrs hn4 hp hsz hfb
        go_wp2_with fail
        refine HX.out.mono ?_
        rintro e w2 ⟨rfl, rfl⟩
        go_wp2_with fail
        go_roundw
        case rel => exact ⟨k + 1, _, rfl, by omega, by go_num, by rw [HN2.out]; exact HO.out, HL.out, HNE.out, HB.out⟩
        case measure => simp [intOf]; omega
      · have h2 : 1 < r.size := by rw [hrs]; unfold spP at hp; simpa using hp
        have HN2 := Lib.hid (HY.out hp)
        have hr4 : r.size ≤ 4 := by omega
        clear hget hf hr hrs hn4 hp hsz hfb
        go_wp2_with fail
        refine HX.out.mono ?_
        rintro e w2 ⟨rfl, rfl⟩
        go_wp2_with (at_builtin; refine wpList_append_lies _ rfl _ _ 28 rfl w.heap.size 9 i0 (.string ByteArray.empty) 1 16 Try.underlying28 HI.out HZ0.out HZ1.out HZ2.out rfl (by decide) _ _ _ rfl (HO.out.alloc _) ⟨_, 0, none⟩ 1 1 [.string fb] rfl rfl (cell_one_new _ _ _) (by intro u hu; simp at hu; subst hu; rfl) (by omega) (by unfold maxLen; omega) (by omega) (by have := HB.out.size; simp; omega) _ rfl ?_)
        intro g2 c2 w3 hown' hgrow hat _
        have HB3 := Lib.hid (since_grown (bthen HB.out (bnew _ _)) hgrow (fun g' hg' => (own_lt HO.out hg').1))
        have HL3 := Lib.hid ((HL.out.alloc (.cells #[.string fb] 9)).kept hgrow (.inr (fun e => HNE.out e.symm)))
        have HNE3 := Lib.hid (show (Value.slice (some ⟨g2, 0, none⟩) (((l.take k).filter (spP s b)).length + 1) c2).ownBlock ≠ some g from fun e => by
          have e2 : g2 = g := by simpa [Value.ownBlock] using e
          subst e2
          rcases hat with h | h
          · exact HNE.out h
          · have := (own_lt HL.out (g := g2) rfl).2
            (try simp at h); omega)
        have HO3 := Lib.hid hown'
        clear hown' hgrow hat
        go_wp2_with fail
        go_roundw
        case rel => exact ⟨k + 1, _, rfl, by omega, by go_num, by rw [HN2.out, List.map_append, List.length_append]; simpa [HE.out] using HO3.out, HL3.out, HNE3.out, HB3.out⟩
        case measure => simp [intOf]; omega
    · obtain rfl : k = l.length := by omega
      rw [List.take_length, ← HSP.out] at HO
      go_wp2_with fail
      go_ret
      exact ⟨_, rfl, HO.out, HB.out⟩
set_option maxHeartbeats 1000000 in
theorem special_all (s : ByteArray) (n : Int) (b : Bool) (w : World) (m : Int) (hm : w.cell? ⟨0, 0, none⟩ = some (.int .i64 m)) (hs : s.size ≤ maxLen) :
    Calls Try.prog 71 #[.string s, .int .i64 n, .bool b] w fun e w' => ∃ v, e = .returned v ∧ w'.ownsRow w.heap.size 9 1 v (spR s n b).length ((spR s n b).map .string) ∧ Below w.heap.size w w' := by
  cases hl : lenB s.data.toList n
  · have HP := Lib.hid (sp_no (b := b) hl)
    go_enter Try.func71, Try.ntmps71
    go_wp2_with (go_at_call 54; refine (isLength_any _ _ _ hs).mono ?_; rw [hl]; rintro e w' ⟨rfl, rfl⟩)
    go_ret
    exact ⟨_, rfl, by rw [HP.out]; exact World.ownsRow_nil _ _ _ _, Below.refl _ _⟩
  · obtain ⟨h1, h2, h3⟩ := lenB_parts hl
    obtain ⟨k, rfl⟩ := Int.eq_ofNat_of_zero_le (show 0 ≤ n by omega)
    refine (special_any s k b w m hm hl).mono ?_
    rintro e w1 ⟨v, rfl, ho, hb⟩
    exact ⟨_, rfl, by rw [sp_yes hl, enc_map, List.length_map]; exact ho, hb⟩
theorem implLeftSpecial_any (s : ByteArray) (n : Int) (w : World) (m : Int) (hm : w.cell? ⟨0, 0, none⟩ = some (.int .i64 m)) (hs : s.size ≤ maxLen) :
    Calls Try.prog 43 #[.string s, .int .i64 n] w fun e w' => ∃ v, e = .returned v ∧ w'.ownsRow w.heap.size 9 1 v (spR s n false).length ((spR s n false).map .string) ∧ Below w.heap.size w w' := by
  have HC := Lib.hid (special_all s n false w m hm hs)
  clear hm
  go_enter Try.func43, Try.ntmps43
  go_wp2_with fail
  refine HC.out.mono ?_
  rintro e w1 ⟨v, rfl, ho, hb⟩
  have HO := Lib.hid ho; have HB := Lib.hid hb; clear ho hb
  go_wp2_with fail
  go_ret
  exact ⟨_, rfl, HO.out, HB.out⟩
theorem implRightSpecial_any (s : ByteArray) (n : Int) (w : World) (m : Int) (hm : w.cell? ⟨0, 0, none⟩ = some (.int .i64 m)) (hs : s.size ≤ maxLen) :
    Calls Try.prog 45 #[.string s, .int .i64 n] w fun e w' => ∃ v, e = .returned v ∧ w'.ownsRow w.heap.size 9 1 v (spR s n true).length ((spR s n true).map .string) ∧ Below w.heap.size w w' := by
  have HC := Lib.hid (special_all s n true w m hm hs)
  clear hm
  go_enter Try.func45, Try.ntmps45
  go_wp2_with fail
  refine HC.out.mono ?_
  rintro e w1 ⟨v, rfl, ho, hb⟩
  have HO := Lib.hid ho; have HB := Lib.hid hb; clear ho hb
  go_wp2_with fail
  go_ret
  exact ⟨_, rfl, HO.out, HB.out⟩
set_option maxHeartbeats 1000000 in
theorem specLeftSpecial_any (s : ByteArray) (n : Int) (w : World) (hs : s.size ≤ maxLen) :
    Calls Try.prog 42 #[.string s, .int .i64 n] w fun e w' => ∃ v, e = .returned v ∧ w'.ownsRow w.heap.size 9 1 v (spR s n false).length ((spR s n false).map .string) ∧ Below w.heap.size w w' := by
  cases hw : wordB s.data.toList
  · have HP := Lib.hid (sp_no (s := s) (n := n) (b := false) (by unfold lenB; rw [hw]; rfl))
    go_enter Try.func42, Try.ntmps42
    go_wp2_with (go_at_call 46; refine (specWordOk_any _ _ hs).mono ?_; rw [hw]; rintro e w' ⟨rfl, rfl⟩)
    go_ret
    exact ⟨_, rfl, by rw [HP.out]; exact World.ownsRow_nil _ _ _ _, Below.refl _ _⟩
  have HW := Lib.hid hw
  cases hn : (decide ((1 : Int) ≤ n) && decide (n ≤ 400))
  · have HP := Lib.hid (sp_no (s := s) (n := n) (b := false) (by unfold lenB; rw [hn]; simp))
    have HN := Lib.hid hn; clear hn hw
    go_enter Try.func42, Try.ntmps42
    go_wp2_with (first
      | (go_at_call 46; refine (specWordOk_any _ _ hs).mono ?_; rw [HW.out]; rintro e w' ⟨rfl, rfl⟩)
      | (go_at_call 52; refine (l01In_any _ _ _ _).mono ?_; rw [HN.out]; rintro e w' ⟨rfl, rfl⟩))
    go_ret
    exact ⟨_, rfl, by rw [HP.out]; exact World.ownsRow_nil _ _ _ _, Below.refl _ _⟩
  · have hl : lenB s.data.toList n = true := by unfold lenB; rw [hw, hn]; rfl
    obtain ⟨h1, h2, h3⟩ := lenB_parts hl
    obtain ⟨m, rfl⟩ := Int.eq_ofNat_of_zero_le (show 0 ≤ n by omega)
    have HP := Lib.hid (sp_yes (b := false) hl)
    have HN := Lib.hid hn; clear hn hl hw
    have HC := Lib.hid (l06Special_any s m true w (word_len h1) (by omega) (by omega))
    clear h1
    go_enter Try.func42, Try.ntmps42
    go_wp2_with (first
      | (go_at_call 46; refine (specWordOk_any _ _ hs).mono ?_; rw [HW.out]; rintro e w' ⟨rfl, rfl⟩)
      | (go_at_call 52; refine (l01In_any _ _ _ _).mono ?_; rw [HN.out]; rintro e w' ⟨rfl, rfl⟩))
    refine HC.out.mono ?_
    rintro e w1 ⟨v, rfl, ho, hb⟩
    have HO := Lib.hid ho; have HB := Lib.hid hb; clear ho hb
    go_wp2_with fail
    go_ret
    exact ⟨_, rfl, by rw [HP.out, enc_map, List.length_map]; exact HO.out, HB.out⟩
set_option maxHeartbeats 1000000 in
theorem specRightSpecial_any (s : ByteArray) (n : Int) (w : World) (hs : s.size ≤ maxLen) :
    Calls Try.prog 44 #[.string s, .int .i64 n] w fun e w' => ∃ v, e = .returned v ∧ w'.ownsRow w.heap.size 9 1 v (spR s n true).length ((spR s n true).map .string) ∧ Below w.heap.size w w' := by
  cases hw : wordB s.data.toList
  · have HP := Lib.hid (sp_no (s := s) (n := n) (b := true) (by unfold lenB; rw [hw]; rfl))
    go_enter Try.func44, Try.ntmps44
    go_wp2_with (go_at_call 46; refine (specWordOk_any _ _ hs).mono ?_; rw [hw]; rintro e w' ⟨rfl, rfl⟩)
    go_ret
    exact ⟨_, rfl, by rw [HP.out]; exact World.ownsRow_nil _ _ _ _, Below.refl _ _⟩
  have HW := Lib.hid hw
  cases hn : (decide ((1 : Int) ≤ n) && decide (n ≤ 400))
  · have HP := Lib.hid (sp_no (s := s) (n := n) (b := true) (by unfold lenB; rw [hn]; simp))
    have HN := Lib.hid hn; clear hn hw
    go_enter Try.func44, Try.ntmps44
    go_wp2_with (first
      | (go_at_call 46; refine (specWordOk_any _ _ hs).mono ?_; rw [HW.out]; rintro e w' ⟨rfl, rfl⟩)
      | (go_at_call 52; refine (l01In_any _ _ _ _).mono ?_; rw [HN.out]; rintro e w' ⟨rfl, rfl⟩))
    go_ret
    exact ⟨_, rfl, by rw [HP.out]; exact World.ownsRow_nil _ _ _ _, Below.refl _ _⟩
  · have hl : lenB s.data.toList n = true := by unfold lenB; rw [hw, hn]; rfl
    obtain ⟨h1, h2, h3⟩ := lenB_parts hl
    obtain ⟨m, rfl⟩ := Int.eq_ofNat_of_zero_le (show 0 ≤ n by omega)
    have HP := Lib.hid (sp_yes (b := true) hl)
    have HN := Lib.hid hn; clear hn hl hw
    have HC := Lib.hid (l06Special_any s m false w (word_len h1) (by omega) (by omega))
    clear h1
    go_enter Try.func44, Try.ntmps44
    go_wp2_with (first
      | (go_at_call 46; refine (specWordOk_any _ _ hs).mono ?_; rw [HW.out]; rintro e w' ⟨rfl, rfl⟩)
      | (go_at_call 52; refine (l01In_any _ _ _ _).mono ?_; rw [HN.out]; rintro e w' ⟨rfl, rfl⟩))
    refine HC.out.mono ?_
    rintro e w1 ⟨v, rfl, ho, hb⟩
    have HO := Lib.hid ho; have HB := Lib.hid hb; clear ho hb
    go_wp2_with fail
    go_ret
    exact ⟨_, rfl, by rw [HP.out, enc_map, List.length_map]; exact HO.out, HB.out⟩
end Go.Proofs.Ytflpnbbdfjcggaa
