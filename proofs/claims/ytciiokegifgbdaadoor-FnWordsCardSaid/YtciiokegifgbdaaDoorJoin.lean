/- Walks: strings put one after the other with a string between them. -/
import Derived.Test.YtciiokegifgbdaaDoorSz
import Derived.Test.YtciiokegifgbdaaDoorOn
import Derived.Test.YtciiokegifgbdaaDoorPlain5
import Derived.Test.YtciiokegifgbdaaDoorShelf
import Derived.Lib.Join
namespace Go.Proofs.YtciiokegifgbdaaDoor
open Go.RowKit
set_option maxRecDepth 20000

def jl (xs : List ByteArray) : List (List UInt8) := xs.map (·.data.toList)
/-- what Join returns -/
def joinR (xs : List ByteArray) (f : ByteArray) : ByteArray := ⟨(Lib.join (jl xs) f.data.toList).toArray⟩
theorem lens_bytes : ∀ xs : List ByteArray, Lib.lens (jl xs) = bytesOf xs
  | [] => rfl
  | a :: l => by
    have := lens_bytes l
    simp only [Lib.lens, jl, List.map_cons, List.sum_cons, bytesOf] at this ⊢
    rw [this, ← Lib.size_eq]
theorem join_len (xs : List ByteArray) (f : ByteArray) : (Lib.join (jl xs) f.data.toList).length ≤ f.size * xs.length + bytesOf xs := by
  cases xs with
  | nil => simp [jl, Lib.join_nil]
  | cons a l =>
    show (Lib.join (a.data.toList :: jl l) f.data.toList).length ≤ _
    rw [Lib.join_length]
    have h1 := lens_bytes (a :: l)
    have h2 : (a.data.toList :: jl l) = jl (a :: l) := rfl
    rw [h2, h1, ← Lib.size_eq]
    have h3 : (jl l).length = l.length := by simp [jl]
    rw [h3, List.length_cons]
    have : f.size * l.length ≤ f.size * (l.length + 1) := Nat.mul_le_mul_left _ (Nat.le_succ _)
    omega
theorem join_snoc (l : List (List UInt8)) (y sep : List UInt8) (h : l ≠ []) : Lib.join (l ++ [y]) sep = Lib.join l sep ++ sep ++ y := by
  cases l with
  | nil => exact absurd rfl h
  | cons a r =>
    rw [List.cons_append, Lib.join_cons, Lib.join_cons]
    simp [Lib.joinTail, List.append_assoc]
theorem bytesOf_take (xs : List ByteArray) (k : Nat) : bytesOf (xs.take k) ≤ bytesOf xs := by
  have h := congrArg bytesOf (List.take_append_drop k xs)
  rw [bytesOf_append] at h; omega
theorem stringsJoin_any (xs : List ByteArray) (va : Value) (f : ByteArray) (w : World) (ha : Row1 w w.heap.size va (xs.map .string)) (hx : xs.length + bytesOf xs ≤ 1048576) (hf : f.size ≤ 1048576) :
    Calls Tryd.prog 33 #[va, .string f] w fun e w' => e = .returned (.string (joinR xs f)) ∧ Below w.heap.size w w' := by
  by_cases h0 : xs.length = 0
  · obtain ⟨A, c, rfl⟩ := ha.shape
    have e : xs = [] := List.length_eq_zero_iff.1 h0
    subst e
    refine (Tryd.strings_Join_none A c f w).mono ?_
    rintro e w' ⟨rfl, rfl⟩
    exact ⟨rfl, Below.refl _ _⟩
  · obtain ⟨b, o, c, rfl, hb, hc, hcell⟩ := ha.openAt (by omega)
    have hlen := join_len xs f
    have hmul : f.size * xs.length ≤ 1048576 * 1048576 := Nat.mul_le_mul hf (by omega)
    refine Tryd.strings_Join b o c xs f w ?_ hb (by omega) hc (by show (Lib.join (jl xs) _).length ≤ _; omega)
    intro j x hj
    obtain ⟨hlt, he⟩ := List.getElem?_eq_some_iff.1 hj
    rw [hcell j hlt, he]
theorem implJoin_any (xs : List ByteArray) (va : Value) (f : ByteArray) (w : World) (ha : Row1 w w.heap.size va (xs.map .string)) (hx : xs.length + bytesOf xs ≤ 1048576) (hf : f.size ≤ 1048576) :
    Calls Tryd.prog 14 #[va, .string f] w fun e w' => e = .returned (.string (joinR xs f)) ∧ Below w.heap.size w w' := by
  have H := Lib.hid (stringsJoin_any xs va f w ha hx hf)
  obtain ⟨A, c, rfl⟩ := ha.shape
  clear ha
  go_enter Tryd.func14, Tryd.ntmps14
  go_wp2_with fail
  refine H.out.mono ?_
  rintro e w1 ⟨rfl, hb1⟩
  have B1 := Lib.hid hb1; clear hb1
  go_wp2_with fail
  go_ret
  exact ⟨rfl, B1.out⟩
theorem take_jl (xs : List ByteArray) (k : Nat) (h : k < xs.length) : jl (xs.take (k + 1)) = jl (xs.take k) ++ [xs[k].data.toList] := by
  unfold jl; rw [List.take_succ_eq_append_getElem h, List.map_append]; rfl
set_option maxHeartbeats 1000000 in
theorem specJoin_any (xs : List ByteArray) (va : Value) (f : ByteArray) (w : World) (ha : Row1 w w.heap.size va (xs.map .string)) (hx : xs.length + bytesOf xs ≤ 1048576) (hf : f.size ≤ 1048576) :
    Calls Tryd.prog 55 #[va, .string f] w fun e w' => e = .returned (.string (joinR xs f)) ∧ w' = w := by
  have hbnd : ∀ k, k ≤ xs.length → (Lib.join (jl (xs.take k)) f.data.toList).length ≤ 1099512676352 := fun k hk => by
    have h1 := join_len (xs.take k) f
    have h2 := bytesOf_take xs k
    have h3 : (xs.take k).length ≤ 1048576 := by rw [List.length_take]; omega
    have hmul : f.size * (xs.take k).length ≤ 1048576 * 1048576 := Nat.mul_le_mul hf h3
    omega
  have HB := Lib.hid hbnd
  have hsmall : ∀ k (h : k < xs.length), xs[k].size ≤ 1048576 := fun k h => by
    have h1 := bytesOf_step xs k h
    have h2 := bytesOf_take xs (k + 1)
    omega
  have HS := Lib.hid hsmall
  have HA := Lib.hid ha
  obtain ⟨A, c, rfl⟩ := ha.shape
  clear hbnd hsmall ha
  have hxl : xs.length ≤ 1048576 := by omega
  clear hx
  go_enter Tryd.func55, Tryd.ntmps55
  go_wp2_with fail
  go_loop [5, 10] (fun v i => ∃ (k : Nat) (out : ByteArray), k ≤ xs.length ∧ i = .int .i64 k ∧ v = .string out ∧ out.data.toList = Lib.join (jl (xs.take k)) f.data.toList) (fun _ i => xs.length - (intOf i).toNat)
  case atStart => exact ⟨0, ⟨#[]⟩, Nat.zero_le _, rfl, rfl, rfl⟩
  case round =>
    obtain ⟨k, out, hk, rfl, rfl, ho⟩ := hrel
    have hsz : out.size ≤ 1099512676352 := by rw [Lib.size_eq, ho]; exact HB.out k hk
    have HO := Lib.hid ho; clear ho
    by_cases hlt : k < xs.length
    · obtain ⟨b, o, c', hA, hb, hc, hcell⟩ := HA.out.openAt (by omega)
      cases hA
      have g1 := hcell k hlt
      have hz := HS.out k hlt
      have HT := Lib.hid (take_jl xs k hlt)
      obtain ⟨x, hxx⟩ : ∃ x, xs[k] = x := ⟨_, rfl⟩
      rw [hxx] at g1 hz HT
      clear hcell
      by_cases h0 : k = 0
      · subst h0
        rw [Nat.add_zero] at g1
        have HE := Lib.hid (show out.data.toList = [] by rw [HO.out]; rfl)
        go_wp2
        go_round
        case rel => exact ⟨1, _, by omega, rfl, rfl, by rw [data_append, HE.out, HT.out]; show _ = Lib.join [x.data.toList] _; rw [Lib.join_one]; rfl⟩
        case measure => simp [intOf]; omega
      · have hk0 : 0 < k := by omega
        have HN := Lib.hid (join_snoc (jl (xs.take k)) x.data.toList f.data.toList (by unfold jl; intro h; have := congrArg List.length h; rw [List.length_map, List.length_take, List.length_nil] at this; omega))
        go_wp2
        go_round
        case rel => exact ⟨k + 1, _, by omega, by go_num, rfl, by rw [data_append, data_append, HO.out, HT.out, HN.out]⟩
        case measure => simp [intOf]; omega
    · obtain rfl : k = xs.length := by omega
      have HM := Lib.hid (show joinR xs f = out by unfold joinR; rw [mk_list out HO.out, List.take_length])
      go_wp2
      go_ret
      exact ⟨by rw [HM.out] <;> rfl, rfl⟩
end Go.Proofs.YtciiokegifgbdaaDoor
