/- Walks: a string with zeros before it. -/
import Derived.Test.YtlnpjaojcngnhaaWord
import Derived.Test.YtlnpjaojcngnhaaPlain5
import Derived.Test.YtlnpjaojcngnhaaShelf
namespace Go.Proofs.Ytlnpjaojcngnhaa
open Go.RowKit
set_option maxRecDepth 20000

/-- what PadZeros returns -/
def padR (l : List UInt8) (n : Int) : List UInt8 := if n ≤ 2000 ∧ (l.length : Int) < n then List.replicate (n - l.length).toNat 48 ++ l else l
theorem pad_out {l : List UInt8} {n : Int} (h : ¬ (n ≤ 2000 ∧ (l.length : Int) < n)) : padR l n = l := by unfold padR; rw [if_neg h]
theorem pad_in {l : List UInt8} {n : Int} (h : n ≤ 2000 ∧ (l.length : Int) < n) : padR l n = List.replicate (n - l.length).toNat 48 ++ l := by unfold padR; rw [if_pos h]
set_option maxHeartbeats 1000000 in
theorem specPadZeros_any (s : ByteArray) (n : Int) (w : World) (_ : s.size ≤ 1048576) :
    Calls Try.prog 29 #[.string s, .int .i64 n] w fun e w' => e = .returned (.string ⟨(padR s.data.toList n).toArray⟩) ∧ w' = w := by
  by_cases hb : 2000 < n
  · have HP := Lib.hid (show (⟨(padR s.data.toList n).toArray⟩ : ByteArray) = s by rw [pad_out (by omega)])
    go_enter Try.func29, Try.ntmps29
    go_wp2_with fail
    go_ret
    exact ⟨by rw [HP.out] <;> rfl, rfl⟩
  have HSZ := Lib.hid (Lib.size_eq s)
  go_enter Try.func29, Try.ntmps29
  go_wp2_with fail
  go_loop [0] (fun v => ∃ (j : Nat) (out : ByteArray), v = .string out ∧ out.data.toList = List.replicate j 48 ++ s.data.toList ∧ (j = 0 ∨ (s.size : Int) + j ≤ n)) (fun v => (n - (match v with | .string o => (o.size : Int) | _ => 0)).toNat)
  case atStart => exact ⟨0, s, rfl, rfl, .inl rfl⟩
  case round =>
    obtain ⟨j, out, rfl, ho, hj⟩ := hrel
    have hsz : out.size = j + s.size := by rw [Lib.size_eq, ho, HSZ.out]; simp
    have HO := Lib.hid ho; have HJ := Lib.hid hj; clear ho hj
    by_cases hlt : (out.size : Int) < n
    · go_wp2
      go_round
      case rel => exact ⟨j + 1, _, rfl, by rw [data_append, HO.out]; rfl, .inr (by omega)⟩
      case measure =>
        show (n - (((⟨#[48]⟩ : ByteArray) ++ out).size : Int)).toNat < (n - (out.size : Int)).toNat
        rw [ByteArray.size_append]
        have : (⟨#[48]⟩ : ByteArray).size = 1 := rfl
        omega
    · have HP := Lib.hid (show (⟨(padR s.data.toList n).toArray⟩ : ByteArray) = out by
        have h2 : padR s.data.toList n = List.replicate j 48 ++ s.data.toList := by
          rcases HJ.out with rfl | h
          · rw [pad_out (by rw [← HSZ.out]; omega)]; rfl
          · by_cases h0 : j = 0
            · subst h0; rw [pad_out (by rw [← HSZ.out]; omega)]; rfl
            · rw [pad_in (by rw [← HSZ.out]; omega), ← HSZ.out]; congr 2; omega
        rw [h2, ← HO.out])
      go_wp2
      go_ret
      exact ⟨by rw [HP.out] <;> rfl, rfl⟩
theorem repeat_zero : ∀ c : Nat, Lib.repeatL [48] c = List.replicate c 48
  | 0 => rfl
  | c + 1 => by
    show [48] ++ Lib.repeatL [48] c = List.replicate (c + 1) 48
    rw [repeat_zero c, List.replicate_succ]; rfl
theorem repeat_any (c : Nat) (w : World) (h1 : 1 ≤ c) (h2 : c ≤ 2000) :
    Calls Try.prog 52 #[.string ⟨#[48]⟩, .int .i64 c] w fun e w' => e = .returned (.string ⟨(List.replicate c 48).toArray⟩) ∧ Below w.heap.size w w' := by
  by_cases hc : c = 1
  · subst hc
    refine (Try.strings_Repeat_one ⟨#[48]⟩ w).mono ?_
    rintro e w' ⟨rfl, rfl⟩
    exact ⟨rfl, Below.refl _ _⟩
  · have := Try.strings_Repeat_main ⟨#[48]⟩ c w (by omega) (by omega) (by show 1 * c ≤ _; omega) (by show 0 < 1; omega)
    rw [show (⟨#[48]⟩ : ByteArray).data.toList = [48] from rfl, repeat_zero] at this
    exact this
set_option maxHeartbeats 1000000 in
theorem implPadZeros_any (s : ByteArray) (n : Int) (w : World) (hs : s.size ≤ 1048576) :
    Calls Try.prog 30 #[.string s, .int .i64 n] w fun e w' => e = .returned (.string ⟨(padR s.data.toList n).toArray⟩) ∧ Below w.heap.size w w' := by
  have HSZ := Lib.hid (Lib.size_eq s)
  by_cases hb : n ≤ 2000 ∧ (s.size : Int) < n
  · obtain ⟨c, rfl⟩ : ∃ c : Nat, n = (s.size : Int) + c := ⟨(n - s.size).toNat, by omega⟩
    obtain ⟨q1, q2⟩ := hb
    have HP := Lib.hid (show padR s.data.toList ((s.size : Int) + c) = List.replicate c 48 ++ s.data.toList by
      rw [pad_in (by rw [← HSZ.out]; omega), ← HSZ.out]; congr 2; omega)
    have e3 : ((s.size : Int) + c - s.size) = c := by omega
    have HR := Lib.hid (repeat_any c w (by omega) (by omega))
    have hrs : (⟨(List.replicate c 48).toArray⟩ : ByteArray).size = c := by rw [Lib.size_eq]; simp
    go_enter Try.func30, Try.ntmps30
    go_wp2_with fail
    refine HR.out.mono ?_
    rintro e w1 ⟨rfl, hb1⟩
    have B1 := Lib.hid hb1; clear hb1
    obtain ⟨z, hz⟩ : ∃ z : ByteArray, z = ⟨(List.replicate c 48).toArray⟩ := ⟨_, rfl⟩
    rw [← hz] at hrs ⊢
    have HZ := Lib.hid hz; clear hz
    go_wp2_with fail
    go_ret
    have HM := mk_list (z ++ s) (show (z ++ s).data.toList = padR s.data.toList ((s.size : Int) + c) by rw [data_append, HP.out, HZ.out])
    exact ⟨by rw [← HM] <;> rfl, B1.out⟩
  · have HP := Lib.hid (show (⟨(padR s.data.toList n).toArray⟩ : ByteArray) = s by rw [pad_out (by rw [← HSZ.out]; omega)])
    by_cases h2 : n ≤ (s.size : Int)
    · go_enter Try.func30, Try.ntmps30
      go_wp2_with fail
      go_ret
      exact ⟨by rw [HP.out] <;> rfl, Below.refl _ _⟩
    · have h3 : 2000 < n := by omega
      go_enter Try.func30, Try.ntmps30
      go_wp2_with fail
      go_ret
      exact ⟨by rw [HP.out] <;> rfl, Below.refl _ _⟩
set_option maxHeartbeats 400000 in
theorem law_PadZeros (s : ByteArray) (n : Int) (w : World) (_ : s.size ≤ maxLen) (_ : (Lit.int .i64 n).wf = true) :
    Calls Try.prog 7 #[.string s, .int .i64 n] w fun e w' => e = .returned (.bool true) ∧ Below w.heap.size w w' := by
  by_cases big : 1048576 < s.size
  · go_enter Try.func7, Try.ntmps7
    go_wp2_with fail
    go_ret
    exact ⟨rfl, Below.refl _ _⟩
  have h1 := fun W => specPadZeros_any s n W (by omega)
  have h2 := fun W => implPadZeros_any s n W (by omega)
  obtain ⟨r, hr⟩ : ∃ r : ByteArray, r = ⟨(padR s.data.toList n).toArray⟩ := ⟨_, rfl⟩
  rw [← hr] at h1 h2
  have H1 := Lib.hid h1; have H2 := Lib.hid h2
  clear h1 h2 hr
  go_enter Try.func7, Try.ntmps7
  go_wp2_with fail
  refine (H1.out _).mono ?_
  rintro e w1 ⟨rfl, rfl⟩
  go_wp2_with fail
  refine (H2.out _).mono ?_
  rintro e w2 ⟨rfl, hb2⟩
  have B2 := Lib.hid hb2; clear hb2
  go_wp2_with fail
  go_ret
  exact ⟨rfl, B2.out⟩
end Go.Proofs.Ytlnpjaojcngnhaa
