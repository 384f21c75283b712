/- Walks: the lines of a string. -/
import Derived.Test.YtciiokegifgbdaaDoorSplit
import Derived.Test.YtciiokegifgbdaaDoorPlaces
namespace Go.Proofs.YtciiokegifgbdaaDoor
open Go.RowKit

def nl : ByteArray := ⟨#[10]⟩
/-- what SplitLines returns -/
def linesR (s : ByteArray) : List ByteArray :=
  if (s.extract (splitSt s nl.data.toList.contains s.size).2 s.size).size = 0 then (splitSt s nl.data.toList.contains s.size).1 else splitR s nl.data.toList.contains
theorem own_pop {w : World} {base : Nat} {E : TypeId} {n g cap : Nat} {xs : List Value} {z : Value} (h : w.ownsRow base E 1 (.slice (some ⟨g, 0, none⟩) (n + 1) cap) (n + 1) (xs ++ [z])) :
    w.ownsRow base E 1 (.slice (some ⟨g, 0, none⟩) n cap) n xs := by
  obtain ⟨h1, h2⟩ := h
  rw [List.length_append] at h1
  have h1' : xs.length = n := by simp at h1; omega
  rcases h2 with ⟨h0, _⟩ | ⟨g', cap', cur, hv, hg, hh, hn, hcap, hsz, htake⟩
  · cases h0
  · cases hv
    refine ⟨by omega, .inr ⟨g, cap, cur, rfl, hg, hh, by omega, hcap, hsz, ?_⟩⟩
    have h3 : (cur.toList.take ((n + 1) * 1)).take n = (xs ++ [z]).take n := by rw [htake]
    rw [List.take_take, Nat.min_eq_left (by omega), ← h1', List.take_left' rfl, h1'] at h3
    rw [Nat.mul_one]; exact h3
theorem own_some {w : World} {base : Nat} {E : TypeId} {n : Nat} {v : Value} {xs : List Value} (h : w.ownsRow base E 1 v (n + 1) xs) : ∃ g c, v = .slice (some ⟨g, 0, none⟩) (n + 1) c ∧ n + 1 ≤ c := by
  rcases h.2 with ⟨_, h0⟩ | ⟨g, cap, cur, rfl, _, _, hn, _⟩
  · omega
  · exact ⟨_, _, rfl, hn⟩
set_option maxHeartbeats 1000000 in
theorem implSplitLines_any (s : ByteArray) (w : World) (hs : s.size ≤ 1048576) :
    Calls Tryd.prog 17 #[.string s] w fun e w' => ∃ v, e = .returned v ∧ w'.ownsRow w.heap.size 9 1 v (linesR s).length ((linesR s).map .string) ∧ Below w.heap.size w w' := by
  have h1 := implSplitAny_any s nl w hs (by decide)
  obtain ⟨p, hp⟩ : ∃ p, p = nl.data.toList.contains := ⟨_, rfl⟩
  have HL := Lib.hid (show linesR s = if (s.extract (splitSt s p s.size).2 s.size).size = 0 then (splitSt s p s.size).1 else splitR s p by rw [hp]; rfl)
  rw [← hp] at h1
  obtain ⟨P, hP⟩ : ∃ P, P = (splitSt s p s.size).1 := ⟨_, rfl⟩
  obtain ⟨z, hz⟩ : ∃ z, z = s.extract (splitSt s p s.size).2 s.size := ⟨_, rfl⟩
  have hR : splitR s p = P ++ [z] := by rw [hP, hz]; rfl
  have hn : P.length ≤ 1048576 := by have := (split_le s p s.size).1; rw [hP]; omega
  rw [hR] at h1 HL
  rw [← hP, ← hz] at HL
  rw [show (P ++ [z]).length = P.length + 1 by simp] at h1
  have H1 := Lib.hid h1
  clear h1 hR hP hz hp
  go_enter Tryd.func17, Tryd.ntmps17
  go_wp2_with fail
  refine H1.out.mono ?_
  rintro e w1 ⟨v, rfl, ho, hb⟩
  obtain ⟨g, c, rfl, hc1⟩ := own_some ho
  have hc2 : P.length ≤ c := by omega
  have hl : (List.map Value.string (P ++ [z]))[P.length]? = some (.string z) := by rw [List.getElem?_map, List.getElem?_append_right (Nat.le_refl _)]; simp
  have hcell := ho.cellAt P.length (by omega)
  rw [hl] at hcell
  have hfz := ho.frozenAt P.length
  have HO := Lib.hid ho; have HB := Lib.hid hb; clear ho hb hl
  by_cases h0 : z.size = 0
  · rw [if_pos h0] at HL
    obtain rfl := empty_of h0
    go_wp2_with fail
    go_ret
    exact ⟨_, rfl, by rw [HL.out]; exact own_pop (by simpa using HO.out), HB.out⟩
  · rw [if_neg h0] at HL
    have hne := toList_ne (f := z) (by omega)
    go_wp2_with fail
    go_ret
    exact ⟨_, rfl, by rw [HL.out]; simpa using HO.out, HB.out⟩
end Go.Proofs.YtciiokegifgbdaaDoor
