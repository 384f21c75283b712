/- Words for slices of bytes that the call has converted from a string and appends to, over any program. Conditions: none beyond the hypotheses of each lemma. -/
import Derived.Test.YtglleimmmfnhcaaBytes
import Derived.Lib.AppendStr
import Derived.RegionTactic
namespace Go.Proofs.Ytglleimmmfnhcaa
open Go.RowKit

/-- v owns the bytes l in a block that the call has made; no cell of it is frozen -/
def OwnT (w : World) (base : Nat) (e : TypeId) (v : Value) (l : List UInt8) : Prop :=
  ∃ g cap cur fz, v = .slice (some ⟨g, 0, none⟩) l.length cap ∧ base ≤ g ∧ w.heap[g]? = some (.cells cur e fz) ∧ (fz.2 = 0 ∨ cur.size ≤ fz.1) ∧ l.length ≤ cap ∧ cap ≤ maxLen ∧ cur.size = cap ∧ cur.toList.take l.length = l.map byteV

section
variable {w w' : World} {base : Nat} {e : TypeId} {v : Value} {l : List UInt8}
theorem OwnT.lt (h : OwnT w base e v l) : ∀ k, v.ownBlock = some k → base ≤ k ∧ k < w.heap.size := by
  intro k hk
  obtain ⟨g, cap, cur, fz, rfl, hb, hg, _⟩ := h
  simp only [Value.ownBlock, Option.some.injEq] at hk
  subst hk
  exact ⟨hb, (Array.getElem?_eq_some_iff.1 hg).1⟩
theorem OwnT.shape (h : OwnT w base e v l) : ∃ g c, v = .slice (some ⟨g, 0, none⟩) l.length c ∧ base ≤ g ∧ g < w.heap.size ∧ l.length ≤ c ∧ c ≤ maxLen := by
  have h0 := h.lt
  obtain ⟨g, cap, cur, fz, rfl, hb, hg, _, hc, hm, _⟩ := h
  exact ⟨g, cap, rfl, hb, (h0 g rfl).2, hc, hm⟩
theorem OwnT.mono {base' : Nat} (h : OwnT w base e v l) (hb : base' ≤ base) : OwnT w base' e v l := by
  obtain ⟨g, cap, cur, fz, rfl, hbg, rest⟩ := h
  exact ⟨g, cap, cur, fz, rfl, Nat.le_trans hb hbg, rest⟩
theorem OwnT.on (h : OwnT w base e v l) (hb : Below w.heap.size w w') : OwnT w' base e v l := by
  obtain ⟨g, cap, cur, fz, rfl, hbg, hg, rest⟩ := h
  exact ⟨g, cap, cur, fz, rfl, hbg, (hb.block g (Array.getElem?_eq_some_iff.1 hg).1).trans hg, rest⟩
theorem OwnT.cells (h : OwnT w base e v l) {g : Nat} (hg : v.ownBlock = some g) : ∀ j u, (l.map byteV)[j]? = some u → w.cell? ((⟨g, 0, none⟩ : Addr).add j) = some u := by
  intro j u hu
  obtain ⟨g', cap, cur, fz, rfl, _, hgg, _, _, _, _, htake⟩ := h
  simp only [Value.ownBlock, Option.some.injEq] at hg
  subst hg
  have hadd : (⟨g', 0, none⟩ : Addr).add j = ⟨g', j, none⟩ := by unfold Addr.add; split <;> simp_all
  rw [hadd, cell_of_row w g' j cur e fz hgg]
  rw [← htake, List.getElem?_take] at hu
  split at hu
  · simpa using hu
  · cases hu
theorem OwnT.cellAt {g c n : Nat} (h : OwnT w base e (.slice (some ⟨g, 0, none⟩) n c) l) (k : Nat) (hk : k < l.length) : w.cell? ⟨g, k, none⟩ = some (.int .u8 l[k].toNat) := by
  have h1 := h.cells (g := g) rfl k (byteV l[k]) (by rw [List.getElem?_map, List.getElem?_eq_getElem hk]; rfl)
  rw [Addr.add_lit, Nat.zero_add] at h1
  exact h1
end

/-- stores into a row of which no cell is frozen -/
theorem run_storeCells_atT (P : Program) (g o : Nat) (t : TypeId) (fz : Nat × Nat) : ∀ (vs : List Value) (i : Nat) (cur : Array Value) (w : World), w.heap[g]? = some (.cells cur t fz) → (fz.2 = 0 ∨ cur.size ≤ fz.1) → o + i + vs.length ≤ cur.size → (∀ v ∈ vs, v.oneCell' = true) →
    (storeCells ⟨g, o, none⟩ vs i).run P w = .ok () (w.setRow g (cur.toList.take (o + i) ++ vs ++ cur.toList.drop (o + i + vs.length)).toArray)
  | [], i, cur, w, hg, _, _, _ => by
    simp only [storeCells, List.append_nil, List.length_nil, Nat.add_zero, List.take_append_drop, Array.toArray_toList]
    rw [setRow_self w g cur t fz hg]
    rfl
  | v :: rest, i, cur, w, hg, hfz, hl, h1 => by
    have hi : o + i < cur.size := by simp at hl; omega
    have hadd : (⟨g, o, none⟩ : Addr).add i = ⟨g, o + i, none⟩ := by unfold Addr.add; split <;> simp_all
    have hcell : w.cell? ⟨g, o + i, none⟩ = some cur[o + i] := by simp [World.cell?, hg, hi]
    have hfro : w.frozen? ⟨g, o + i, none⟩ = false := by
      obtain ⟨lo, hi'⟩ := fz
      simp only at hfz
      simp only [World.frozen?, hg, Bool.and_eq_false_iff, decide_eq_false_iff_not]
      rcases hfz with h | h
      · right; omega
      · left; omega
    have hst : (store ((⟨g, o, none⟩ : Addr).add i) v).run P w = .ok () (w.setRow g (cur.setIfInBounds (o + i) v)) := by
      rw [hadd, run_store P w _ v _ (h1 v (by simp)), hcell]
      simp [hfro, setCell_eq_setRow w g (o + i) cur t fz v hg]
    have ih := run_storeCells_atT P g o t fz rest (i + 1) (cur.setIfInBounds (o + i) v) (w.setRow g (cur.setIfInBounds (o + i) v)) (setRow_heap w g cur _ t _ hg) (by simpa using hfz) (by simp at hl ⊢; omega) (fun x hx => h1 x (by simp [hx]))
    simp only [storeCells, Sem.run_bind, hst, Result.andThen_ok, ih, setRow_setRow]
    congr 3
    have e := list_seg_step cur.toList (o + i) v rest (by simp at hl ⊢; omega)
    simpa [Array.toList_setIfInBounds, Nat.add_assoc] using e

section
variable {P : Program} (w : World)
theorem own_room {base g cap : Nat} {e : TypeId} {cur : Array Value} {fz : Nat × Nat} {l r : List UInt8} (hbg : base ≤ g) (hg : w.heap[g]? = some (.cells cur e fz)) (hfz : fz.2 = 0 ∨ cur.size ≤ fz.1) (hcm : cap ≤ maxLen) (hcs : cur.size = cap) (htake : cur.toList.take l.length = l.map byteV) (hroom : l.length + r.length ≤ cap) :
    OwnT (w.setRow g (cur.toList.take l.length ++ r.map byteV ++ cur.toList.drop (l.length + r.length)).toArray) base e (.slice (some ⟨g, 0, none⟩) (l.length + r.length) cap) (l ++ r) ∧ w.grownBy (w.setRow g (cur.toList.take l.length ++ r.map byteV ++ cur.toList.drop (l.length + r.length)).toArray) (some g) := by
  have hsz : (cur.toList.take l.length ++ r.map byteV ++ cur.toList.drop (l.length + r.length)).toArray.size = cap := by
    simp only [List.size_toArray, List.length_append, List.length_take, List.length_drop, Array.length_toList, List.length_map]
    omega
  refine ⟨⟨g, cap, _, fz, by rw [List.length_append], hbg, setRow_heap w g cur _ e _ hg, ?_, by rw [List.length_append]; exact hroom, hcm, hsz, ?_⟩, ⟨rfl, rfl, rfl, by simp, fun k _ hk => setRow_other w g k _ (fun e => hk (by simp [e]))⟩⟩
  · rcases hfz with h | h
    · exact .inl h
    · exact .inr (by rw [hsz]; omega)
  · rw [htake]
    have hl : (l ++ r).length = (l.map byteV ++ r.map byteV).length := by simp
    rw [hl, List.map_append]
    exact List.take_left
theorem own_grew {base old : Nat} {e : TypeId} {l r : List UInt8} (hbase : base ≤ w.heap.size) (h63 : l.length + r.length ≤ maxLen) (row : Option Nat) :
    OwnT (w.drew.alloc (.cells ((l.map byteV).toArray ++ (r.map byteV).toArray ++ Builtin.zeroCells (Value.int .u8 0).cells (grownCap w (l.length + r.length) old e - (l.length + r.length))) e)) base e (.slice (some ⟨w.heap.size, 0, none⟩) (l.length + r.length) (grownCap w (l.length + r.length) old e)) (l ++ r) ∧
    w.grownBy (w.drew.alloc (.cells ((l.map byteV).toArray ++ (r.map byteV).toArray ++ Builtin.zeroCells (Value.int .u8 0).cells (grownCap w (l.length + r.length) old e - (l.length + r.length))) e)) row := by
  have hge := grownCap_ge w (l.length + r.length) old e
  have hcm := grownCap_le_maxLen w (l.length + r.length) old e h63
  have hz1 : (Value.int IntKind.u8 0).cells.size = 1 := rfl
  refine ⟨⟨w.heap.size, _, _, (0, 0), by rw [List.length_append], hbase, heap_alloc_new w.drew _, .inl rfl, by rw [List.length_append]; exact hge, hcm, ?_, ?_⟩, ⟨rfl, rfl, rfl, by simp, fun k hk _ => Below.heap_alloc w.drew _ k hk⟩⟩
  · simp only [Array.size_append, List.size_toArray, size_zeroCells, hz1, List.length_map]
    omega
  · simp only [Array.toList_append, List.append_assoc]
    have hl : (l ++ r).length = (l.map byteV ++ r.map byteV).length := by simp
    rw [← List.append_assoc, hl, List.map_append]
    exact List.take_left
/-- append of a slice of bytes -/
theorem run_append_T (base : Nat) (t ty e : TypeId) (i : TypeInfo) (ht : P.underlying t = some (.slice e)) (hi : P.info? e = some i) (hz : i.zero = some (.int .u8 0)) (hsize : i.size = 1) (hby : i.bytes = 1)
    (v : Value) (l r : List UInt8) (hown : OwnT w base e v l) (a : Addr) (c : Nat) (hnews : ∀ j u, (r.map byteV)[j]? = some u → w.cell? (a.add j) = some u)
    (h63 : l.length + r.length ≤ 140737488355328) (hbase : base ≤ w.heap.size) :
    ∃ v' w', (Builtin.append_ #[t, t] ty #[v, .slice (some a) r.length c]).run P w = .ok v' w' ∧ OwnT w' base e v' (l ++ r) ∧ w.grownBy w' v.ownBlock := by
  have h64 : l.length + r.length ≤ maxLen := by unfold maxLen; omega
  have hz1 : (Value.int IntKind.u8 0).cells = #[Value.int IntKind.u8 0] := rfl
  have hown0 := hown
  obtain ⟨g, cap, cur, fz, rfl, hbg, hg, hfz, hnc, hcm, hcs, htake⟩ := hown
  have hrl : (r.map byteV).length = r.length * i.size := by rw [List.length_map, hsize, Nat.mul_one]
  have h1 : ∀ u ∈ r.map byteV, u.oneCell' = true := byte_one r
  by_cases hroom : l.length + r.length ≤ cap
  · have hf := run_firstCells_some (P := P) w i.size r.length a r.length c (r.map byteV) hrl hnews
    have hst := run_storeCells_atT P g l.length e fz (r.map byteV) 0 cur w hg hfz (by simp only [List.length_map]; omega) h1
    simp only [Nat.add_zero, List.length_map] at hst
    obtain ⟨o1, o2⟩ := own_room (l := l) (r := r) w hbg hg hfz hcm hcs htake hroom
    refine ⟨_, _, ?_, o1, o2⟩
    rw [hsize] at hf
    simp [Builtin.append_, run_underlying ht, sizeOf, typeInfo, hi, hsize, Builtin.lenOf, hroom, hf, Addr.add_lit, hst]
  · have holds : ∀ j u, (l.map byteV)[j]? = some u → w.cell? ((⟨g, 0, none⟩ : Addr).add j) = some u := hown0.cells (g := g) rfl
    have hr := run_append_grow (P := P) w t ty e i (.int .u8 0) ht hi hz ⟨g, 0, none⟩ l.length cap (l.map byteV) (by rw [List.length_map, hsize, Nat.mul_one]) holds a r.length c (r.map byteV) hrl hnews (by omega) (by omega) (by rw [hby]; exact growslice_fits (by omega) (by omega))
    obtain ⟨o1, o2⟩ := own_grew (base := base) (old := cap) (e := e) (l := l) (r := r) w hbase h64 (Value.ownBlock (.slice (some ⟨g, 0, none⟩) l.length cap))
    exact ⟨_, _, hr, o1, o2⟩
/-- append of a string's bytes -/
theorem run_append_Ts (base : Nat) (t u ty e : TypeId) (i : TypeInfo) (ht : P.underlying t = some (.slice e)) (hu : P.underlying u = some .string) (hi : P.info? e = some i) (hz : i.zero = some (.int .u8 0)) (hsize : i.size = 1) (hby : i.bytes = 1)
    (v : Value) (l : List UInt8) (hown : OwnT w base e v l) (s : ByteArray)
    (h63 : l.length + s.size ≤ 140737488355328) (hbase : base ≤ w.heap.size) :
    ∃ v' w', (Builtin.append_ #[t, u] ty #[v, .string s]).run P w = .ok v' w' ∧ OwnT w' base e v' (l ++ s.data.toList) ∧ w.grownBy w' v.ownBlock := by
  have hss : s.size = s.data.toList.length := Lib.size_eq s
  have h64 : l.length + s.data.toList.length ≤ maxLen := by unfold maxLen; omega
  have hown0 := hown
  obtain ⟨g, cap, cur, fz, rfl, hbg, hg, hfz, hnc, hcm, hcs, htake⟩ := hown
  have hsc : Lib.strCells s = s.data.toList.map byteV := rfl
  by_cases hroom : l.length + s.data.toList.length ≤ cap
  · have hf := Lib.run_firstCells_string (P := P) w 1 s
    have hst := run_storeCells_atT P g l.length e fz (s.data.toList.map byteV) 0 cur w hg hfz (by simp only [List.length_map]; omega) (byte_one _)
    simp only [Nat.add_zero, List.length_map] at hst
    obtain ⟨o1, o2⟩ := own_room (l := l) (r := s.data.toList) w hbg hg hfz hcm hcs htake hroom
    refine ⟨_, _, ?_, o1, o2⟩
    rw [hsc, hss] at hf
    rw [← hss] at hroom hst ⊢
    rw [← hss] at hf
    simp [Builtin.append_, run_underlying ht, run_underlying hu, sizeOf, typeInfo, hi, hsize, Builtin.lenOf, hroom, hf, Addr.add_lit, hst]
  · have holds : ∀ j u, (l.map byteV)[j]? = some u → w.cell? ((⟨g, 0, none⟩ : Addr).add j) = some u := hown0.cells (g := g) rfl
    have hr := Lib.run_append_grow_string (P := P) w t u ty e i (.int .u8 0) ht hu hi hz ⟨g, 0, none⟩ l.length cap (l.map byteV) (by rw [List.length_map, hsize, Nat.mul_one]) holds s (by omega) (by omega) (by rw [hby]; exact growslice_fits (by omega) (by omega))
    obtain ⟨o1, o2⟩ := own_grew (base := base) (old := cap) (e := e) (l := l) (r := s.data.toList) w hbase h64 (Value.ownBlock (.slice (some ⟨g, 0, none⟩) l.length cap))
    rw [hsc, hss] at hr
    exact ⟨_, _, hr, o1, o2⟩
theorem wp_append_T {o : Oper} {a : Act} {K : Act → World → Prop} {Q : Exit → Act → World → Prop} (s x : Operand) (t : TypeId)
    (ho : o.op = .call { callee := .builtin .append, args := #[s, x], argTypes := #[t, t] })
    (base : Nat) (e : TypeId) (i : TypeInfo) (ht : P.underlying t = some (.slice e)) (hi : P.info? e = some i) (hz : i.zero = some (.int .u8 0)) (hsize : i.size = 1) (hby : i.bytes = 1)
    (v : Value) (l r : List UInt8) (hs : a.eval s = v) (hown : OwnT w base e v l) (ad : Addr) (m c : Nat) (hm : m = r.length) (hx : a.eval x = .slice (some ad) m c) (hnews : ∀ j u, (r.map byteV)[j]? = some u → w.cell? (ad.add j) = some u)
    (h63 : l.length + r.length ≤ 140737488355328) (hbase : base ≤ w.heap.size)
    (h : ∀ v' w', OwnT w' base e v' (l ++ r) → w.grownBy w' v.ownBlock → K (a.put o.dst v') w') : o.wp P a w K Q := by
  subst hm
  obtain ⟨v', w', hr, h2, h3⟩ := run_append_T (P := P) w base t o.type e i ht hi hz hsize hby v l r hown ad c hnews h63 hbase
  unfold Oper.wp execOp
  simp only [ho, resolve, invoke, builtin, Sem.run_bind, Sem.run_pure, Result.andThen_ok, List.map_toArray, List.map_cons, List.map_nil, hs, hx, hr]
  exact h v' w' h2 h3
theorem wp_append_Ts {o : Oper} {a : Act} {K : Act → World → Prop} {Q : Exit → Act → World → Prop} (s x : Operand) (t u : TypeId)
    (ho : o.op = .call { callee := .builtin .append, args := #[s, x], argTypes := #[t, u] })
    (base : Nat) (e : TypeId) (i : TypeInfo) (ht : P.underlying t = some (.slice e)) (hu : P.underlying u = some .string) (hi : P.info? e = some i) (hz : i.zero = some (.int .u8 0)) (hsize : i.size = 1) (hby : i.bytes = 1)
    (v : Value) (l : List UInt8) (hs : a.eval s = v) (hown : OwnT w base e v l) (st : ByteArray) (hx : a.eval x = .string st)
    (h63 : l.length + st.size ≤ 140737488355328) (hbase : base ≤ w.heap.size)
    (h : ∀ v' w', OwnT w' base e v' (l ++ st.data.toList) → w.grownBy w' v.ownBlock → K (a.put o.dst v') w') : o.wp P a w K Q := by
  obtain ⟨v', w', hr, h2, h3⟩ := run_append_Ts (P := P) w base t u o.type e i ht hu hi hz hsize hby v l hown st h63 hbase
  unfold Oper.wp execOp
  simp only [ho, resolve, invoke, builtin, Sem.run_bind, Sem.run_pure, Result.andThen_ok, List.map_toArray, List.map_cons, List.map_nil, hs, hx, hr]
  exact h v' w' h2 h3
theorem wpList_append_T {ops : Array Oper} {rest : List Oper} {o : Oper} {a : Act} {Q : Exit → Act → World → Prop} (hgd : o.guard = none) (s x : Operand) (t : TypeId)
    (ho : o.op = .call { callee := .builtin .append, args := #[s, x], argTypes := #[t, t] })
    (base : Nat) (e : TypeId) (i : TypeInfo) (ht : P.underlying t = some (.slice e)) (hi : P.info? e = some i) (hz : i.zero = some (.int .u8 0)) (hsize : i.size = 1) (hby : i.bytes = 1)
    (v : Value) (l r : List UInt8) (hs : a.eval s = v) (hown : OwnT w base e v l) (ad : Addr) (m c : Nat) (hm : m = r.length) (hx : a.eval x = .slice (some ad) m c) (hnews : ∀ j u, (r.map byteV)[j]? = some u → w.cell? (ad.add j) = some u)
    (h63 : l.length + r.length ≤ 140737488355328) (hbase : base ≤ w.heap.size)
    (h : ∀ v' w', OwnT w' base e v' (l ++ r) → w.grownBy w' v.ownBlock → wpList P ops Q rest (a.put o.dst v') w') : wpList P ops Q (o :: rest) a w :=
  wpList_plain hgd fun _ hK => wp_append_T w s x t ho base e i ht hi hz hsize hby v l r hs hown ad m c hm hx hnews h63 hbase fun v' w' h2 h3 => hK _ _ (h v' w' h2 h3)
theorem wpList_append_Ts {ops : Array Oper} {rest : List Oper} {o : Oper} {a : Act} {Q : Exit → Act → World → Prop} (hgd : o.guard = none) (s x : Operand) (t u : TypeId)
    (ho : o.op = .call { callee := .builtin .append, args := #[s, x], argTypes := #[t, u] })
    (base : Nat) (e : TypeId) (i : TypeInfo) (ht : P.underlying t = some (.slice e)) (hu : P.underlying u = some .string) (hi : P.info? e = some i) (hz : i.zero = some (.int .u8 0)) (hsize : i.size = 1) (hby : i.bytes = 1)
    (v : Value) (l : List UInt8) (hs : a.eval s = v) (hown : OwnT w base e v l) (st : ByteArray) (hx : a.eval x = .string st)
    (h63 : l.length + st.size ≤ 140737488355328) (hbase : base ≤ w.heap.size)
    (h : ∀ v' w', OwnT w' base e v' (l ++ st.data.toList) → w.grownBy w' v.ownBlock → wpList P ops Q rest (a.put o.dst v') w') : wpList P ops Q (o :: rest) a w :=
  wpList_plain hgd fun _ hK => wp_append_Ts w s x t u ho base e i ht hu hi hz hsize hby v l hs hown st hx h63 hbase fun v' w' h2 h3 => hK _ _ (h v' w' h2 h3)
theorem step_append_T {ops : Array Oper} {o : Oper} {a : Act} {K : Act → World → Prop} {Q : Exit → Act → World → Prop} {E : Prop} (hgd : o.guard = none) (s x : Operand) (t : TypeId)
    (ho : o.op = .call { callee := .builtin .append, args := #[s, x], argTypes := #[t, t] })
    (base : Nat) (e : TypeId) (i : TypeInfo) (ht : P.underlying t = some (.slice e)) (hi : P.info? e = some i) (hz : i.zero = some (.int .u8 0)) (hsize : i.size = 1) (hby : i.bytes = 1)
    (v : Value) (l r : List UInt8) (hs : a.eval s = v) (hown : OwnT w base e v l) (ad : Addr) (m c : Nat) (hm : m = r.length) (hx : a.eval x = .slice (some ad) m c) (hnews : ∀ j u, (r.map byteV)[j]? = some u → w.cell? (ad.add j) = some u)
    (h63 : l.length + r.length ≤ 140737488355328) (hbase : base ≤ w.heap.size)
    (h : ∀ v' w', OwnT w' base e v' (l ++ r) → w.grownBy w' v.ownBlock → K (a.put o.dst v') w') :
    if Region.wanted o (yielded ops a.tmps) = true then Oper.wp P o a w K Q else E := by
  rw [if_pos (by simp [Region.wanted, hgd])]
  exact wp_append_T w s x t ho base e i ht hi hz hsize hby v l r hs hown ad m c hm hx hnews h63 hbase h
theorem step_append_Ts {ops : Array Oper} {o : Oper} {a : Act} {K : Act → World → Prop} {Q : Exit → Act → World → Prop} {E : Prop} (hgd : o.guard = none) (s x : Operand) (t u : TypeId)
    (ho : o.op = .call { callee := .builtin .append, args := #[s, x], argTypes := #[t, u] })
    (base : Nat) (e : TypeId) (i : TypeInfo) (ht : P.underlying t = some (.slice e)) (hu : P.underlying u = some .string) (hi : P.info? e = some i) (hz : i.zero = some (.int .u8 0)) (hsize : i.size = 1) (hby : i.bytes = 1)
    (v : Value) (l : List UInt8) (hs : a.eval s = v) (hown : OwnT w base e v l) (st : ByteArray) (hx : a.eval x = .string st)
    (h63 : l.length + st.size ≤ 140737488355328) (hbase : base ≤ w.heap.size)
    (h : ∀ v' w', OwnT w' base e v' (l ++ st.data.toList) → w.grownBy w' v.ownBlock → K (a.put o.dst v') w') :
    if Region.wanted o (yielded ops a.tmps) = true then Oper.wp P o a w K Q else E := by
  rw [if_pos (by simp [Region.wanted, hgd])]
  exact wp_append_Ts w s x t u ho base e i ht hu hi hz hsize hby v l hs hown st hx h63 hbase h
end

/-- what a conversion has laid -/
theorem OwnT.conv {W w' : World} {t : ByteArray} {g base : Nat} (h : w'.heap[g]? = some (cvObj W t)) (hb : base ≤ g) (ht : t.size ≤ 140737488355328) : OwnT w' base 5 (.slice (some ⟨g, 0, none⟩) t.size (cvCap W t)) t.data.toList := by
  have hge : t.size ≤ cvCap W t := grownCap_ge W t.size 0 5
  have hcm : cvCap W t ≤ maxLen := grownCap_le_maxLen W t.size 0 5 (by unfold maxLen; omega)
  have hsz : (bytesRow t (cvCap W t)).size = cvCap W t := by
    unfold bytesRow
    rw [Array.size_append, Array.size_map, Array.size_replicate]
    have : t.data.size = t.size := rfl
    omega
  refine ⟨g, cvCap W t, _, _, by rw [Lib.size_eq], hb, h, .inr (Nat.le_refl _), by rw [← Lib.size_eq]; exact hge, hcm, hsz, ?_⟩
  have hl : t.data.toList.length = (t.data.toList.map byteV).length := by simp
  unfold bytesRow
  rw [Array.toList_append, Array.toList_map, hl]
  exact List.take_left
theorem OwnT.convNew {W : World} {t : ByteArray} {H base : Nat} (hH : W.heap.size = H) (hb : base ≤ H) (ht : t.size ≤ 140737488355328) : OwnT (W.alloc (cvObj W t)).drew base 5 (.slice (some ⟨H, 0, none⟩) t.size (cvCap W t)) t.data.toList := by
  subst hH
  exact OwnT.conv (heap_alloc_new W _) hb ht
theorem OwnT.cap {w : World} {base g n c : Nat} {e : TypeId} {l : List UInt8} (h : OwnT w base e (.slice (some ⟨g, 0, none⟩) n c) l) : n = l.length ∧ n ≤ c ∧ c ≤ maxLen := by
  obtain ⟨g', c', he, _, _, h1, h2⟩ := h.shape
  cases he
  exact ⟨rfl, h1, h2⟩
/-- a slice of it, converted back -/
theorem run_back_T {w : World} {base g n c : Nat} {l : List UInt8} (h : OwnT w base 5 (.slice (some ⟨g, 0, none⟩) n c) l) (m c' : Nat) (hm : m ≤ l.length) :
    (convert 62 9 (.slice (some ⟨g, 0, none⟩) m c')).run Try.prog w = .ok (.string ⟨(l.take m).toArray⟩) w := by
  have hml : (l.take m).length = m := by rw [List.length_take]; omega
  have h2 := run_convert_bytes_back w 62 9 5 ⟨g, 0, none⟩ c' (l.take m) Try.underlying62 Try.underlying5 Try.underlying9 fun j hj => by
    rw [Addr.add_lit, Nat.zero_add, h.cellAt j (by omega), List.getElem_take]
  rw [hml] at h2
  exact h2
end Go.Proofs.Ytglleimmmfnhcaa
