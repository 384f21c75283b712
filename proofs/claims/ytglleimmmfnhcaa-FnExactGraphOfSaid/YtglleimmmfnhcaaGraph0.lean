/- Walks: the graph of the factors. -/
import Derived.Test.YtglleimmmfnhcaaSearch
import Derived.Test.YtglleimmmfnhcaaGridM
import Derived.Test.YtglleimmmfnhcaaBox
import Derived.Deep.RegionLaw
import Derived.Deep.AppendLies
namespace Go.Proofs.Ytglleimmmfnhcaa
open Go.RowKit
set_option maxRecDepth 20000

theorem info_rowG : (Try.prog.info? 41).map (fun i => (i.zero, i.size, i.bytes)) = some (some (.slice none 0 0), 1, 24) := by kernel_rfl
theorem types_gs : (9 : TypeId) ≠ 41 := by decide
theorem ext1 (s : ByteArray) (i n : Nat) : ((s.extract i (i + (n + 1))).extract 0 n) = s.extract i (i + n) := by
  apply ByteArray.ext
  simp only [ByteArray.data_extract, Array.extract_extract]
  congr 1; omega
theorem ext2 (s : ByteArray) (i n : Nat) (h : i + (n + 1) ≤ s.size) : ((s.extract i (i + (n + 1))).extract 1 (s.extract i (i + (n + 1))).size) = s.extract (i + 1) (i + 1 + n) := by
  apply ByteArray.ext
  rw [ByteArray.size_extract]
  simp only [ByteArray.data_extract, Array.extract_extract]
  congr 1; omega
theorem fac_of {s : ByteArray} {n i : Nat} (h : i + n ≤ s.size) : win s n i ∈ facR s n :=
  ((srt_facts (wins s n (s.size + 1 - n))).2 _).2 (by unfold wins; exact List.mem_map.2 ⟨i, List.mem_range.2 (by omega), rfl⟩)
theorem fac_parts {s : ByteArray} {n : Nat} {f : List UInt8} (h : f ∈ facR s (n + 1)) : ((mkB f).extract 0 n).data.toList ∈ facR s n ∧ ((mkB f).extract 1 (mkB f).size).data.toList ∈ facR s n ∧ (mkB f).size = n + 1 := by
  have h2 := ((srt_facts (wins s (n + 1) (s.size + 1 - (n + 1)))).2 f).1 h
  simp only [wins, List.mem_map, List.mem_range] at h2
  obtain ⟨i, hi, rfl⟩ := h2
  have e : mkB (win s (n + 1) i) = s.extract i (i + (n + 1)) := by unfold mkB win; exact Lib.mk_data _
  rw [e]
  refine ⟨?_, ?_, by rw [ByteArray.size_extract]; omega⟩
  · rw [ext1]; exact fac_of (by omega)
  · rw [ext2 s i n (by omega)]; exact fac_of (by omega)
/-- the edge of a factor -/
def gRow (l : List (List UInt8)) (n : Nat) (f : List UInt8) : List Int := [(l.idxOf ((mkB f).extract 0 n).data.toList : Int), (l.idxOf ((mkB f).extract 1 (mkB f).size).data.toList : Int)]
def grL (s : ByteArray) (n : Nat) : List (List Int) := (facR s (n + 1)).map (gRow (facR s n) n)
/-- what GraphOf returns -/
def grR (s : ByteArray) (n : Int) : List (List Int) := if lenB s.data.toList n = true then grL s n.toNat else []
theorem gr_no {s : ByteArray} {n : Int} (h : lenB s.data.toList n = false) : grR s n = [] := by unfold grR; rw [h]; rfl
theorem gr_yes {s : ByteArray} {n : Nat} (h : lenB s.data.toList n = true) : grR s n = grL s n := by unfold grR; rw [if_pos h]; rfl
theorem totL_two (l : List (List UInt8)) (g : List UInt8 → List Int) (h : ∀ f, (g f).length = 2) : totL (l.map g) = 2 * l.length := by
  induction l with
  | nil => rfl
  | cons a l ih => rw [List.map_cons, totL, ih, h, List.length_cons]; omega
theorem grR_len (s : ByteArray) (n : Int) : (grR s n).length ≤ s.size + 1 ∧ totL (grR s n) ≤ 2 * (s.size + 1) := by
  unfold grR; split
  · have h := facR_len s (n.toNat + 1)
    unfold grL
    rw [List.length_map, totL_two _ _ (fun f => rfl)]; omega
  · simp [totL]
theorem grL_take {l F : List (List UInt8)} {n k : Nat} (h : k < F.length) : (F.map (gRow l n)).take (k + 1) = (F.map (gRow l n)).take k ++ [gRow l n F[k]] := by
  rw [List.take_succ_eq_append_getElem (by simpa using h)]; simp
end Go.Proofs.Ytglleimmmfnhcaa
