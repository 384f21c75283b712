/- Walks: the factors of a word, sorted and each once. -/
import Derived.Test.YtglleimmmfnhcaaBox
import Derived.Test.YtglleimmmfnhcaaPlainS
import Derived.Test.YtglleimmmfnhcaaPlaces
import Derived.Test.YtglleimmmfnhcaaBytes
import Derived.Sort.Walk0
namespace Go.Proofs.Ytglleimmmfnhcaa
open Go.RowKit
set_option maxRecDepth 20000

theorem info_strF : (Try.prog.info? 9).map (fun i => (i.zero, i.size, i.bytes)) = some (some (.string ByteArray.empty), 1, 16) := by kernel_rfl
theorem own_form {w : World} {base : Nat} {E : TypeId} {size n : Nat} {v : Value} {xs : List Value} (h : w.ownsRow base E size v n xs) (hn : v ≠ .slice none 0 0) : ∃ g c, v = .slice (some ⟨g, 0, none⟩) n c := by
  rcases h.2 with ⟨e, _⟩ | ⟨g, cap, cur, e, _⟩
  · exact absurd e hn
  · exact ⟨g, cap, e⟩
/-- the window of n letters at the index i; the first k windows -/
def win (s : ByteArray) (n i : Nat) : List UInt8 := (s.extract i (i + n)).data.toList
def wins (s : ByteArray) (n k : Nat) : List (List UInt8) := (List.range k).map (win s n)
theorem wins_succ (s : ByteArray) (n k : Nat) : wins s n (k + 1) = wins s n k ++ [win s n k] := by unfold wins; rw [List.range_succ, List.map_append]; rfl
theorem wins_len (s : ByteArray) (n k : Nat) : (wins s n k).length = k := by simp [wins]
/-- the factors of n letters -/
def facR (s : ByteArray) (n : Nat) : List (List UInt8) := srt (wins s n (s.size + 1 - n))
theorem facR_len (s : ByteArray) (n : Nat) : (facR s n).length ≤ s.size + 1 - n := by
  have := srt_len (wins s n (s.size + 1 - n)); rw [wins_len] at this; exact this
set_option maxHeartbeats 4000000 in
theorem l05Insert_any (ss l : List (List UInt8)) (g c base : Nat) (t : ByteArray) (w : World) (hl : l = srt ss) (hown : w.ownsRow base 9 1 (.slice (some ⟨g, 0, none⟩) l.length c) l.length (l.map encStr)) (hlen : l.length ≤ 1000) (hbase : base ≤ w.heap.size) :
    Calls Try.prog 79 #[.slice (some ⟨g, 0, none⟩) l.length c, .string t] w fun e w' => ∃ g' c', e = .returned (.slice (some ⟨g', 0, none⟩) (srt (ss ++ [t.data.toList])).length c') ∧
      w'.ownsRow base 9 1 (.slice (some ⟨g', 0, none⟩) (srt (ss ++ [t.data.toList])).length c') (srt (ss ++ [t.data.toList])).length ((srt (ss ++ [t.data.toList])).map encStr) ∧ Below w.heap.size w w' := by
  obtain ⟨i0, hi, hz0, hz1, hz2⟩ := info_parts info_strF
  have HI := Lib.hid hi; have HZ0 := Lib.hid hz0; have HZ1 := Lib.hid hz1; have HZ2 := Lib.hid hz2
  have hc : l.length ≤ c := by
    rcases hown.2 with ⟨e, _⟩ | ⟨_, cap, _, e, _, _, h, _⟩
    · cases e
    · cases e; exact h
  have HL := Lib.hid hl; have HO := Lib.hid hown; have HBASE := Lib.hid hbase
  clear hi hz0 hz1 hz2 hl hown hbase
  go_enter Try.func79, Try.ntmps79
  go_wp2_with fail
  go_loop [5] (fun s => ∃ k : Nat, k ≤ l.length ∧ s = .int .i64 k ∧ ∀ j (hj : j < l.length), k ≤ j → t.data.toList < l[j]) (fun s => (intOf s).toNat)
  case atStart => exact ⟨l.length, Nat.le_refl _, rfl, fun j hj h => by omega⟩
  case round =>
    obtain ⟨k, hk, rfl, hgt⟩ := hrel
    have HGT := Lib.hid hgt; clear hgt
    rcases Nat.eq_zero_or_pos k with h0 | h0
    · subst h0
      have HINS := Lib.hid (ins_out HL.out (x := t.data.toList) (k := 0) (Nat.zero_le _) (fun j hj _ => HGT.out j hj (Nat.zero_le _)) (fun h => absurd h (Nat.lt_irrefl 0)))
      have HO0 := Lib.hid (show (w.alloc (.cells #[] 9)).ownsRow w.heap.size 9 1 (.slice (some ⟨w.heap.size, 0, none⟩) 0 0) 0 [] from by simpa using World.ownsRow_made (base := w.heap.size) (e := 9) (size := 1) w #[] 0 (Nat.le_refl _) (Nat.zero_le _) rfl)
      go_wp2_with (at_builtin; refine wpList_append_own _ rfl _ _ 22 rfl w.heap.size 9 i0 (.string ByteArray.empty) 1 16 Try.underlying22 HI.out HZ0.out HZ1.out HZ2.out rfl (by decide) (.slice (some ⟨w.heap.size, 0, none⟩) 0 0) 0 [] rfl HO0.out ⟨g, 0, none⟩ 0 c [] rfl (by simp; try omega) (fun j u hu => by simp at hu) (by intro u hu; first | (obtain ⟨z, _, rfl⟩ := List.mem_map.1 hu; rfl) | cases hu) (by unfold maxLen; omega) (by omega) (by simp) ?_)
      intro v1 w1 hown1 hg1 hnn1
      have HB1 := Lib.hid (since_grown (bnew w (.cells #[] 9)) hg1 (fun g' hg' => by simp [Value.ownBlock] at hg'; omega))
      have HO1 := Lib.hid (show w1.ownsRow w.heap.size 9 1 v1 0 [] from by simpa using hown1)
      have HN1 := Lib.hid (show v1 ≠ .slice none 0 0 from fun e => by first | exact hnn1 e | (have := hnn1.1 e; simp at this))
      clear hown1 hg1 hnn1 HO0
      go_wp2_with (at_builtin; refine wpList_append_own _ rfl _ _ 22 rfl w.heap.size 9 i0 (.string ByteArray.empty) 1 16 Try.underlying22 HI.out HZ0.out HZ1.out HZ2.out rfl (by decide) _ _ _ rfl (HO1.out.alloc _) ⟨_, 0, none⟩ 1 1 [.string t] rfl rfl (cell_one_new _ _ _) (by intro u hu; simp at hu; subst hu; rfl) (by unfold maxLen; omega) (by omega) (by have := HB1.out.size; simp; omega) ?_)
      intro v2 w2 hown2 hg2 hnn2
      have HB2 := Lib.hid (since_grown (bthen HB1.out (bnew _ _)) hg2 (fun g' hg' => (own_lt HO1.out hg').1))
      have HO2 := Lib.hid (show w2.ownsRow w.heap.size 9 1 v2 (0 + 1) ([] ++ [.string t]) from by simpa using hown2)
      have HL2 := Lib.hid (own_below HO.out HB2.out)
      have HN2 := Lib.hid (show v2 ≠ .slice none 0 0 from fun e => by first | exact hnn2 e | exact HN1.out (hnn2.1 e).1)
      have HC3 := Lib.hid (show ∀ (j : Nat) (u : Value), (l.map encStr)[j]? = some u → w2.cell? ((⟨g, 0, none⟩ : Addr).add j) = some u from fun j u hu => by
        rw [Addr.add_lit]
        have hj : 0 + j < l.length := by have := (List.getElem?_eq_some_iff.1 hu).1; simp at this; omega
        rw [HL2.out.cellAt (0 + j) (by omega), ← hu]
        simp)
      clear hown2 hg2 hnn2
      go_wp2_with (at_builtin; refine wpList_append_own _ rfl _ _ 22 rfl w.heap.size 9 i0 (.string ByteArray.empty) 1 16 Try.underlying22 HI.out HZ0.out HZ1.out HZ2.out rfl (by decide) _ _ _ rfl HO2.out ⟨g, 0, none⟩ l.length c (l.map encStr) rfl (by simp) HC3.out (by intro u hu; obtain ⟨z, _, rfl⟩ := List.mem_map.1 hu; rfl) (by unfold maxLen; omega) (by omega) HB2.out.size ?_)
      intro v3 w3 hown3 hg3 hnn3
      have HB3 := Lib.hid (since_grown HB2.out hg3 (fun g' hg' => (own_lt HO2.out hg').1))
      have HT := Lib.hid (show Value.string t = encStr t.data.toList from by show _ = Value.string ⟨t.data.toList.toArray⟩; rw [Lib.mk_data])
      have HO3 := Lib.hid (show w3.ownsRow w.heap.size 9 1 v3 (srt (ss ++ [t.data.toList])).length ((srt (ss ++ [t.data.toList])).map encStr) from by
        rw [HINS.out]
        have h : w3.ownsRow w.heap.size 9 1 v3 (1 + l.length) (([] ++ [.string t]) ++ (l.map encStr)) := by simpa using hown3
        rw [HT.out] at h
        have e : (l.take 0 ++ [t.data.toList] ++ l.drop 0).length = 1 + l.length := by simp; try omega
        rw [e]
        simpa using h)
      have HN3 := Lib.hid (show v3 ≠ .slice none 0 0 from fun e => by first | exact hnn3 e | exact HN2.out (hnn3.1 e).1 | exact HN2.out (hnn3.1 e) | (have h := hnn3 e; exact HN2.out h.1))
      clear hown3 hg3 hnn3
      obtain ⟨g3, c3, rfl⟩ := own_form HO3.out HN3.out
      go_wp2
      go_ret
      exact ⟨g3, c3, rfl, own_base HO3.out HBASE.out, HB3.out⟩
    · obtain ⟨u, hu⟩ : ∃ u : ByteArray, u = ⟨(l[k - 1]'(by omega)).toArray⟩ := ⟨_, rfl⟩
      have hud : u.data.toList = l[k - 1]'(by omega) := by rw [hu]
      have g1 := HO.out.cellAt (k - 1) (by omega)
      have hget : (l.map encStr)[k - 1]? = some (.string u) := by rw [List.getElem?_map, List.getElem?_eq_getElem (by omega), hu]; rfl
      rw [hget] at g1
      by_cases hlt : t.data.toList < l[k - 1]'(by omega)
      · have b1 : Op.bytesLess u.toList t.toList = false := by rw [bytesLess_eq, Lib.toList_data, Lib.toList_data, hud]; exact decide_eq_false (fun h => List.lt_irrefl _ (List.lt_trans h hlt))
        have b2 : (u.toList == t.toList) = false := by rw [beq_eq_false_iff_ne, Lib.toList_data, Lib.toList_data, hud]; intro h; rw [h] at hlt; exact List.lt_irrefl _ hlt
        have HG2 := Lib.hid (show ∀ j (hj : j < l.length), k - 1 ≤ j → t.data.toList < l[j] from fun j hj h => by
          by_cases e : j = k - 1
          · subst e; exact hlt
          · exact HGT.out j hj (by omega))
        clear hlt hud hu hget
        go_wp2
        go_round
        case rel => exact ⟨k - 1, by omega, by go_num, HG2.out⟩
        case measure => simp [intOf]; omega
      · by_cases heq : l[k - 1]'(by omega) = t.data.toList
        · have b1 : Op.bytesLess u.toList t.toList = false := by rw [bytesLess_eq, Lib.toList_data, Lib.toList_data, hud, heq]; exact decide_eq_false (List.lt_irrefl _)
          have b2 : (u.toList == t.toList) = true := by rw [beq_iff_eq, Lib.toList_data, Lib.toList_data, hud]; exact heq
          have HINS := Lib.hid (ins_in HL.out (x := t.data.toList) (by rw [← heq]; exact List.getElem_mem _))
          clear hlt heq hud hu hget
          go_wp2
          go_ret
          exact ⟨g, c, by rw [HINS.out] <;> rfl, by rw [HINS.out]; exact HO.out, Below.refl _ _⟩
        · have b1 : Op.bytesLess u.toList t.toList = true := by rw [bytesLess_eq, Lib.toList_data, Lib.toList_data, hud]; exact decide_eq_true (lt_of_le_ne (List.not_lt.1 hlt) heq)
          have b2 : (u.toList == t.toList) = false := by rw [beq_eq_false_iff_ne, Lib.toList_data, Lib.toList_data, hud]; exact heq
          have HINS := Lib.hid (ins_out HL.out (x := t.data.toList) hk (fun j hj h => HGT.out j hj h) (fun _ => lt_of_le_ne (List.not_lt.1 hlt) heq))
          clear hlt heq hud hu hget
          by_cases hck : c = k
          · obtain rfl := hck
            have HO0 := Lib.hid (show (w.alloc (.cells #[] 9)).ownsRow w.heap.size 9 1 (.slice (some ⟨w.heap.size, 0, none⟩) 0 0) 0 [] from by simpa using World.ownsRow_made (base := w.heap.size) (e := 9) (size := 1) w #[] 0 (Nat.le_refl _) (Nat.zero_le _) rfl)
            have HC1 := Lib.hid (show ∀ (j : Nat) (u : Value), ((l.take c).map encStr)[j]? = some u → (w.alloc (.cells #[] 9)).cell? ((⟨g, 0, none⟩ : Addr).add j) = some u from fun j u hu => by
              rw [Addr.add_lit, Nat.zero_add]
              have hj : j < c := by have := (List.getElem?_eq_some_iff.1 hu).1; simp at this; omega
              rw [(HO.out.alloc (.cells #[] 9)).cellAt j (by omega), ← hu]
              simp [hj])
            go_wp2_with (at_builtin; refine wpList_append_own _ rfl _ _ 22 rfl w.heap.size 9 i0 (.string ByteArray.empty) 1 16 Try.underlying22 HI.out HZ0.out HZ1.out HZ2.out rfl (by decide) (.slice (some ⟨w.heap.size, 0, none⟩) 0 0) 0 [] rfl HO0.out ⟨g, 0, none⟩ c c ((l.take c).map encStr) rfl (by simp; try omega) HC1.out (by intro u hu; first | (obtain ⟨z, _, rfl⟩ := List.mem_map.1 hu; rfl) | cases hu) (by unfold maxLen; omega) (by omega) (by simp) ?_)
            intro v1 w1 hown1 hg1 hnn1
            have HB1 := Lib.hid (since_grown (bnew w (.cells #[] 9)) hg1 (fun g' hg' => by simp [Value.ownBlock] at hg'; omega))
            have HO1 := Lib.hid (show w1.ownsRow w.heap.size 9 1 v1 c ((l.take c).map encStr) from by simpa using hown1)
            have HN1 := Lib.hid (show v1 ≠ .slice none 0 0 from fun e => by first | exact hnn1 e | (have := hnn1.1 e; simp at this))
            clear hown1 hg1 hnn1 HO0
            go_wp2_with (at_builtin; refine wpList_append_own _ rfl _ _ 22 rfl w.heap.size 9 i0 (.string ByteArray.empty) 1 16 Try.underlying22 HI.out HZ0.out HZ1.out HZ2.out rfl (by decide) _ _ _ rfl (HO1.out.alloc _) ⟨_, 0, none⟩ 1 1 [.string t] rfl rfl (cell_one_new _ _ _) (by intro u hu; simp at hu; subst hu; rfl) (by unfold maxLen; omega) (by omega) (by have := HB1.out.size; simp; omega) ?_)
            intro v2 w2 hown2 hg2 hnn2
            have HB2 := Lib.hid (since_grown (bthen HB1.out (bnew _ _)) hg2 (fun g' hg' => (own_lt HO1.out hg').1))
            have HO2 := Lib.hid (show w2.ownsRow w.heap.size 9 1 v2 (c + 1) (((l.take c).map encStr) ++ [.string t]) from by simpa using hown2)
            have HL2 := Lib.hid (own_below HO.out HB2.out)
            have HN2 := Lib.hid (show v2 ≠ .slice none 0 0 from fun e => by first | exact hnn2 e | exact HN1.out (hnn2.1 e).1)
            have HDROP := Lib.hid (show l.drop c = [] from List.drop_eq_nil_of_le (by omega))
            clear hown2 hg2 hnn2
            go_wp2_with (at_builtin; refine wpList_append_own _ rfl _ _ 22 rfl w.heap.size 9 i0 (.string ByteArray.empty) 1 16 Try.underlying22 HI.out HZ0.out HZ1.out HZ2.out rfl (by decide) _ _ _ rfl HO2.out ⟨g, 0, none⟩ 0 0 [] rfl rfl (fun j u hu => by simp at hu) (by intro u hu; cases hu) (by unfold maxLen; omega) (by omega) HB2.out.size ?_)
            intro v3 w3 hown3 hg3 hnn3
            have HB3 := Lib.hid (since_grown HB2.out hg3 (fun g' hg' => (own_lt HO2.out hg').1))
            have HT := Lib.hid (show Value.string t = encStr t.data.toList from by show _ = Value.string ⟨t.data.toList.toArray⟩; rw [Lib.mk_data])
            have HO3 := Lib.hid (show w3.ownsRow w.heap.size 9 1 v3 (srt (ss ++ [t.data.toList])).length ((srt (ss ++ [t.data.toList])).map encStr) from by
              rw [HINS.out]
              have h : w3.ownsRow w.heap.size 9 1 v3 (c + 1) ((l.take c).map encStr ++ [.string t]) := by simpa using hown3
              rw [HT.out] at h
              have e : (l.take c ++ [t.data.toList] ++ l.drop c).length = c + 1 := by rw [HDROP.out]; simp; try omega
              rw [e, HDROP.out]
              simpa using h)
            have HN3 := Lib.hid (show v3 ≠ .slice none 0 0 from fun e => by first | exact hnn3 e | exact HN2.out (hnn3.1 e).1 | exact HN2.out (hnn3.1 e) | (have h := hnn3 e; exact HN2.out h.1))
            clear hown3 hg3 hnn3
            obtain ⟨g3, c3, rfl⟩ := own_form HO3.out HN3.out
            go_wp2
            go_ret
            exact ⟨g3, c3, rfl, own_base HO3.out HBASE.out, HB3.out⟩
          · skip
            have HO0 := Lib.hid (show (w.alloc (.cells #[] 9)).ownsRow w.heap.size 9 1 (.slice (some ⟨w.heap.size, 0, none⟩) 0 0) 0 [] from by simpa using World.ownsRow_made (base := w.heap.size) (e := 9) (size := 1) w #[] 0 (Nat.le_refl _) (Nat.zero_le _) rfl)
            have HC1 := Lib.hid (show ∀ (j : Nat) (u : Value), ((l.take k).map encStr)[j]? = some u → (w.alloc (.cells #[] 9)).cell? ((⟨g, 0, none⟩ : Addr).add j) = some u from fun j u hu => by
              rw [Addr.add_lit, Nat.zero_add]
              have hj : j < k := by have := (List.getElem?_eq_some_iff.1 hu).1; simp at this; omega
              rw [(HO.out.alloc (.cells #[] 9)).cellAt j (by omega), ← hu]
              simp [hj])
            go_wp2_with (at_builtin; refine wpList_append_own _ rfl _ _ 22 rfl w.heap.size 9 i0 (.string ByteArray.empty) 1 16 Try.underlying22 HI.out HZ0.out HZ1.out HZ2.out rfl (by decide) (.slice (some ⟨w.heap.size, 0, none⟩) 0 0) 0 [] rfl HO0.out ⟨g, 0, none⟩ k c ((l.take k).map encStr) rfl (by simp; try omega) HC1.out (by intro u hu; first | (obtain ⟨z, _, rfl⟩ := List.mem_map.1 hu; rfl) | cases hu) (by unfold maxLen; omega) (by omega) (by simp) ?_)
            intro v1 w1 hown1 hg1 hnn1
            have HB1 := Lib.hid (since_grown (bnew w (.cells #[] 9)) hg1 (fun g' hg' => by simp [Value.ownBlock] at hg'; omega))
            have HO1 := Lib.hid (show w1.ownsRow w.heap.size 9 1 v1 k ((l.take k).map encStr) from by simpa using hown1)
            have HN1 := Lib.hid (show v1 ≠ .slice none 0 0 from fun e => by first | exact hnn1 e | (have := hnn1.1 e; simp at this))
            clear hown1 hg1 hnn1 HO0
            go_wp2_with (at_builtin; refine wpList_append_own _ rfl _ _ 22 rfl w.heap.size 9 i0 (.string ByteArray.empty) 1 16 Try.underlying22 HI.out HZ0.out HZ1.out HZ2.out rfl (by decide) _ _ _ rfl (HO1.out.alloc _) ⟨_, 0, none⟩ 1 1 [.string t] rfl rfl (cell_one_new _ _ _) (by intro u hu; simp at hu; subst hu; rfl) (by unfold maxLen; omega) (by omega) (by have := HB1.out.size; simp; omega) ?_)
            intro v2 w2 hown2 hg2 hnn2
            have HB2 := Lib.hid (since_grown (bthen HB1.out (bnew _ _)) hg2 (fun g' hg' => (own_lt HO1.out hg').1))
            have HO2 := Lib.hid (show w2.ownsRow w.heap.size 9 1 v2 (k + 1) (((l.take k).map encStr) ++ [.string t]) from by simpa using hown2)
            have HL2 := Lib.hid (own_below HO.out HB2.out)
            have HN2 := Lib.hid (show v2 ≠ .slice none 0 0 from fun e => by first | exact hnn2 e | exact HN1.out (hnn2.1 e).1)
            have HC3 := Lib.hid (show ∀ (j : Nat) (u : Value), ((l.drop k).map encStr)[j]? = some u → w2.cell? ((⟨g, k, none⟩ : Addr).add j) = some u from fun j u hu => by
              rw [Addr.add_lit]
              have hj : k + j < l.length := by have := (List.getElem?_eq_some_iff.1 hu).1; simp at this; omega
              rw [HL2.out.cellAt (k + j) (by omega), ← hu]
              simp)
            clear hown2 hg2 hnn2
            go_wp2_with (at_builtin; refine wpList_append_own _ rfl _ _ 22 rfl w.heap.size 9 i0 (.string ByteArray.empty) 1 16 Try.underlying22 HI.out HZ0.out HZ1.out HZ2.out rfl (by decide) _ _ _ rfl HO2.out ⟨g, k, none⟩ (l.length - k) (c - k) ((l.drop k).map encStr) rfl (by simp) HC3.out (by intro u hu; obtain ⟨z, _, rfl⟩ := List.mem_map.1 hu; rfl) (by unfold maxLen; omega) (by omega) HB2.out.size ?_)
            intro v3 w3 hown3 hg3 hnn3
            have HB3 := Lib.hid (since_grown HB2.out hg3 (fun g' hg' => (own_lt HO2.out hg').1))
            have HT := Lib.hid (show Value.string t = encStr t.data.toList from by show _ = Value.string ⟨t.data.toList.toArray⟩; rw [Lib.mk_data])
            have HO3 := Lib.hid (show w3.ownsRow w.heap.size 9 1 v3 (srt (ss ++ [t.data.toList])).length ((srt (ss ++ [t.data.toList])).map encStr) from by
              rw [HINS.out]
              have h : w3.ownsRow w.heap.size 9 1 v3 (k + 1 + (l.length - k)) ((((l.take k).map encStr) ++ [.string t]) ++ ((l.drop k).map encStr)) := by simpa using hown3
              rw [HT.out] at h
              have e : (l.take k ++ [t.data.toList] ++ l.drop k).length = k + 1 + (l.length - k) := by simp; try omega
              rw [e]
              simpa using h)
            have HN3 := Lib.hid (show v3 ≠ .slice none 0 0 from fun e => by first | exact hnn3 e | exact HN2.out (hnn3.1 e).1 | exact HN2.out (hnn3.1 e) | (have h := hnn3 e; exact HN2.out h.1))
            clear hown3 hg3 hnn3
            obtain ⟨g3, c3, rfl⟩ := own_form HO3.out HN3.out
            go_wp2
            go_ret
            exact ⟨g3, c3, rfl, own_base HO3.out HBASE.out, HB3.out⟩
set_option maxHeartbeats 2000000 in
theorem l05Factors_any (s : ByteArray) (n : Nat) (w : World) (hs : s.size ≤ 400) (h1 : 1 ≤ n) (h4 : n ≤ 401) :
    Calls Try.prog 67 #[.string s, .int .i64 n] w fun e w' => ∃ g c, e = .returned (.slice (some ⟨g, 0, none⟩) (facR s n).length c) ∧ w'.ownsRow w.heap.size 9 1 (.slice (some ⟨g, 0, none⟩) (facR s n).length c) (facR s n).length ((facR s n).map encStr) ∧ Below w.heap.size w w' := by
  have HO0 := Lib.hid (World.ownsRow_made (base := w.heap.size) (e := 9) (size := 1) w #[] 0 (Nat.le_refl _) (Nat.zero_le _) rfl)
  go_enter Try.func67, Try.ntmps67
  go_wp2_with fail
  go_loopw [5, 6] (fun v i wr => ∃ k g c : Nat, k ≤ s.size + 1 - n ∧ i = .int .i64 k ∧ v = .slice (some ⟨g, 0, none⟩) (srt (wins s n k)).length c ∧ wr.ownsRow w.heap.size 9 1 (.slice (some ⟨g, 0, none⟩) (srt (wins s n k)).length c) (srt (wins s n k)).length ((srt (wins s n k)).map encStr) ∧ Below w.heap.size w wr) (fun _ i _ => s.size + 1 - n - (intOf i).toNat)
  case atStart => exact ⟨0, w.heap.size, 0, Nat.zero_le _, rfl, by simp [wins, srt_nil], by simpa [wins, srt_nil] using HO0.out, bnew _ _⟩
  case round =>
    obtain ⟨k, g, c, hk, rfl, rfl, ho, hb⟩ := hrel
    have hl := srt_len (wins s n k)
    rw [wins_len] at hl
    have HO := Lib.hid ho; have HB := Lib.hid hb; clear ho hb
    by_cases hlt : k + n ≤ s.size
    · have HW := Lib.hid (wins_succ s n k)
      obtain ⟨l, hll⟩ : ∃ l, l = srt (wins s n k) := ⟨_, rfl⟩
      have HLL := Lib.hid hll
      rw [← hll] at HO hl ⊢
      clear hll
      go_wp2_with fail
      refine (l05Insert_any (wins s n k) l g c w.heap.size (s.extract k (k + n)) _ HLL.out HO.out (by omega) HB.out.size).mono ?_
      rintro e w1 ⟨g1, c1, rfl, ho1, hb1⟩
      rw [show (s.extract k (k + n)).data.toList = win s n k from rfl, ← HW.out] at ho1 ⊢
      have HO1 := Lib.hid ho1; have HB1 := Lib.hid (bthen HB.out hb1); clear ho1 hb1
      go_wp2_with fail
      go_roundw
      case rel => exact ⟨k + 1, g1, c1, by omega, by go_num, rfl, HO1.out, HB1.out⟩
      case measure => simp [intOf]; omega
    · obtain rfl : k = s.size + 1 - n := by omega
      go_wp2_with fail
      go_ret
      exact ⟨g, c, rfl, HO.out, HB.out⟩
end Go.Proofs.Ytglleimmmfnhcaa
