/- Walks: the law of words. Conditions: none beyond the hypotheses of each lemma. -/
import Derived.Test.YtciiokegifgbdaaDoorCurW
import Derived.Test.YtciiokegifgbdaaDoorLawInts
import Derived.Test.YtciiokegifgbdaaDoorSplP
import Derived.Test.YtciiokegifgbdaaDoorJoin
import Derived.Test.YtciiokegifgbdaaDoorLines
import Derived.Test.YtciiokegifgbdaaDoorBytes
import Derived.Test.YtciiokegifgbdaaDoorPsub
namespace Go.Proofs.YtciiokegifgbdaaDoor
open Go.RowKit
set_option maxRecDepth 20000

def spc : ByteArray := ⟨#[32]⟩
theorem join_spc (s : ByteArray) : joinR (splB 32 s) spc = s := by
  have h : jl (splB 32 s) = spl 32 s.data.toList := splB_lists 32 s
  unfold joinR
  rw [h]
  show (⟨(Lib.join (spl 32 s.data.toList) [32]).toArray⟩ : ByteArray) = s
  rw [join_spl]
theorem splB_len {c : UInt8} {s : ByteArray} : (splB c s).length ≤ s.size + 1 := by
  rw [← splitR_splB c s]
  have := (split_le s (⟨#[c]⟩ : ByteArray).data.toList.contains s.size).1
  unfold splitR; rw [List.length_append]; simp; omega
def x1 : ByteArray := ⟨#[120, 49]⟩
def anb : ByteArray := ⟨#[97, 10, 98, 10]⟩
theorem x1_name : nameB x1.data.toList = true := by decide
theorem anb_lines : (linesR anb).length = 2 := by decide
set_option maxHeartbeats 2000000 in
theorem law_FnWords (va : Value) (ns : List Int) (w : World) (ha : Row1 w w.heap.size va (ns.map (.int .u8))) (hwf : ∀ n ∈ ns, (Lit.int .u8 n).wf = true) (ht : Tab w) (hv : Sents w) :
    Calls Tryd.prog 5 #[va] w fun e w' => e = .returned (.bool true) ∧ Below w.heap.size w w' := by
  have hns : ∀ n ∈ ns, 0 ≤ n ∧ n ≤ 255 := fun n hn => by
    have h := hwf n hn
    have e1 : IntKind.u8.min = 0 := rfl
    have e2 : IntKind.u8.max = 255 := rfl
    simp [Lit.wf, e1, e2] at h
    omega
  have ha2 : Row1 w w.heap.size va (u8s ns) := ha
  have HRD := Lib.hid (Rd.new ha2)
  obtain ⟨A, cap, rfl, hcap, hat⟩ := u8_at ha2
  by_cases big : 1048576 < ns.length
  · clear ha ha2 ht hv hat
    go_enter Tryd.func5, Tryd.ntmps5
    go_wp2_with fail
    go_ret
    exact ⟨rfl, Below.refl _ _⟩
  have hl : ns.length ≤ 1048576 := by omega
  have HN := Lib.hid (makeNum_any _ ns 1 w hns hl (by decide) ha2)
  have HT := Lib.hid (fun W hR => makeText_any (.slice A ns.length cap) ns W hns hl hR)
  have HF := Lib.hid (fun n W (h0 : -9223372036854775808 ≤ n) (h1 : n ≤ 9223372036854775807) (hb : Below w.heap.size w W) => implFormatInt_any n W h0 h1 (ht.on hb))
  have HP := Lib.hid (fun s W (hs : s.size ≤ 1048576) (hb : Below w.heap.size w W) => implParseInt_any s W hs (ht.on hb) (hv.on hb))
  clear ha ha2 ht hv hat hwf hns
  go_enter Tryd.func5, Tryd.ntmps5
  go_wp2_with fail
  refine HN.out.mono ?_
  rintro e w1 ⟨x, hx0, hx1, rfl, hb⟩
  have B1 := Lib.hid hb; clear hb
  obtain ⟨n, hn⟩ : ∃ n : Int, x - 30000 = n := ⟨_, rfl⟩
  have hnb : -30000 ≤ n ∧ n ≤ 35535 := by omega
  go_wp2_with fail
  refine (HF.out n _ (by omega) (by omega) B1.out).mono ?_
  obtain ⟨t, ht⟩ : ∃ t : ByteArray, t = ⟨(Lib.itoa n).toArray⟩ := ⟨_, rfl⟩
  rw [← ht]
  have hts : t.size ≤ 1048576 := by rw [Lib.size_eq, ht]; have := Lib.itoa_length_le n (by omega) (by omega); exact Nat.le_trans this (by decide)
  have htn : numOf t.data.toList = (n, true) := num_yes (by omega) (by omega) (by rw [ht])
  rintro e w2 ⟨rfl, hb⟩
  have B2 := Lib.hid (bthen B1.out hb); clear hb
  have HPP := Lib.hid (HP.out t w2 hts B2.out)
  rw [htn] at HPP
  clear ht htn
  go_wp2_with fail
  refine HPP.out.mono ?_
  rintro e w3 ⟨rfl, hb⟩
  have B3 := Lib.hid (bthen B2.out hb); clear hb
  go_wp2_with fail
  refine (HT.out _ (HRD.out.on B3.out).at).mono ?_
  rintro e w4 ⟨s, hs, rfl, hb⟩
  have B4 := Lib.hid (bthen B3.out hb); clear hb
  go_wp2_with fail
  refine (implSplitAny_any s spc w4 (by omega) (by decide)).mono ?_
  rw [show splitR s spc.data.toList.contains = splB 32 s from splitR_splB 32 s]
  rintro e w5 ⟨v, rfl, ho, hb⟩
  have R5 := Lib.hid (Row1.own ho (List.length_map _).symm)
  have B5 := Lib.hid (bthen B4.out hb); clear hb ho
  have hsum : (splB 32 s).length + bytesOf (splB 32 s) ≤ 1048576 := by
    have h1 := bytesOf_each (n := 1000) (xs := splB 32 s) (fun x hx => Nat.le_trans (splB_size x hx) hs)
    have h2 := splB_len (c := 32) (s := s)
    omega
  have HJ := Lib.hid (implJoin_any (splB 32 s) v spc w5 R5.out hsum (by decide))
  rw [join_spc] at HJ
  clear hsum
  go_wp2_with fail
  refine HJ.out.mono ?_
  rintro e w6 ⟨rfl, hb⟩
  have B6 := Lib.hid (bthen B5.out hb); clear hb
  go_wp2_with fail
  refine (implIsName_any x1 w6 (by decide)).mono ?_
  rw [x1_name]
  rintro e w7 ⟨rfl, rfl⟩
  go_wp2_with fail
  refine (implSplitLines_any anb w6 (by decide)).mono ?_
  rw [anb_lines]
  rintro e w8 ⟨u, rfl, ho, hb⟩
  obtain ⟨A2, c2, rfl⟩ := own_shape ho
  have B8 := Lib.hid (bthen B6.out hb); clear hb ho
  go_wp2_with fail
  go_ret
  exact ⟨rfl, B8.out⟩
end Go.Proofs.YtciiokegifgbdaaDoor
