/- Words for slices of bytes that the call makes: converted from a string and back. Conditions: none beyond the hypotheses of each lemma. -/
import Derived.Test.YtciiokegifgbdaaDoorRows
import Derived.Test.YtciiokegifgbdaaDoorSl
import Derived.Laws.IdiomStrings
import Derived.Lib.Strings
namespace Go.Proofs.YtciiokegifgbdaaDoor
open Go.RowKit

theorem info_byte : (Tryd.prog.info? 5).map (fun i => (i.zero, i.size, i.bytes)) = some (some (.int .u8 0), 1, 1) := by kernel_rfl
def byteV (c : UInt8) : Value := .int .u8 c.toNat
theorem own_shape {w : World} {base : Nat} {E : TypeId} {size n : Nat} {v : Value} {xs : List Value} (h : w.ownsRow base E size v n xs) : ∃ A c, v = .slice A n c := by
  rcases h.2 with ⟨rfl, rfl⟩ | ⟨g, cap, cur, rfl, _⟩
  · exact ⟨_, _, rfl⟩
  · exact ⟨_, _, rfl⟩
/-- what a conversion of a string to bytes lays, and its capacity -/
def cvCap (W : World) (t : ByteArray) : Nat := grownCap W t.size 0 5
def cvObj (W : World) (t : ByteArray) : Obj := .cells (bytesRow t (cvCap W t)) 5 ((bytesRow t (cvCap W t)).size, (bytesRow t (cvCap W t)).size + 1)
theorem run_cv (t : ByteArray) (W : World) : (convert 9 27 (.string t)).run Tryd.prog W = .ok (.slice (some ⟨W.heap.size, 0, none⟩) t.size (cvCap W t)) (W.drew.alloc (cvObj W t)) :=
  run_bytes_of_string W 9 27 5 t Tryd.underlying9 Tryd.underlying27 Tryd.underlying5
theorem cv_cells {W w' : World} {t : ByteArray} {g : Nat} (h : w'.heap[g]? = some (cvObj W t)) : ∀ (j : Nat) (u : Value), (t.data.toList.map byteV)[j]? = some u → w'.cell? ((⟨g, 0, none⟩ : Addr).add j) = some u := by
  intro j u hu
  have hj : j < t.data.size := by have := (List.getElem?_eq_some_iff.1 hu).1; simpa using this
  rw [Addr.add_lit, Nat.zero_add]
  have h2 := cell_of_row w' g j _ _ _ h
  rw [h2, bytesRow_at t _ j hj]
  rw [← hu, List.getElem?_map, List.getElem?_eq_getElem (by simpa using hj)]
  rfl
theorem byte_one (l : List UInt8) : ∀ u ∈ l.map byteV, u.oneCell' = true := by
  intro u hu
  obtain ⟨c, _, rfl⟩ := List.mem_map.1 hu
  rfl
theorem run_back_bytes {w : World} {base g n c : Nat} {l : List UInt8} (h : w.ownsRow base 5 1 (.slice (some ⟨g, 0, none⟩) n c) n (l.map byteV)) :
    (convert 27 9 (.slice (some ⟨g, 0, none⟩) n c)).run Tryd.prog w = .ok (.string ⟨l.toArray⟩) w := by
  have hn : n = l.length := by have := h.1; simp at this; omega
  subst hn
  refine run_convert_bytes_back w 27 9 5 ⟨g, 0, none⟩ c l Tryd.underlying27 Tryd.underlying5 Tryd.underlying9 fun j hj => ?_
  rw [Addr.add_lit, Nat.zero_add, h.cellAt j (by omega), List.getElem?_map, List.getElem?_eq_getElem hj]
  rfl
end Go.Proofs.YtciiokegifgbdaaDoor
