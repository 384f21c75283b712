/-
  No cell of these rows narrows 'for every input' (looked for: loops, veiled, ifaces, maps, wideKeys, modest, calm, conditions, laid).
  DERIVED. THE GIVEN ROWS OF THIS SEAT. 11 by the template 'for every input the law returns true; each argument reads behind the call as it read before'; 0 by the template 'total and deterministic' (their statements: YtflpnbbdfjcggaaTotals.lean).
  GIVEN WITH THE SEED: the statements are not yours to turn. If you find one false, say at which input.
  Laid BY PROGRAM, IN A SANDBOX (cutbox-rows.mjs): the forced cells as the released guide's own fill.sh prints them over the translation 522810a65e4e0fc1… (all of the seat's roots in one cut). By AI agents, Wed Nov 11 2026. No macro, syntax, notation, axiom, sorry.
-/
import Derived.Test.YtflpnbbdfjcggaaChecked
import GoSem.Claim
import GoSem.ClaimJoined
import GoSem.ClaimMapViews
import Derived.JoinedTies
import Derived.KernelRfl
namespace Go.Proofs.Ytflpnbbdfjcggaa
/- THE CELL 'sum', in the pinned program and in every row, IS THE sha256 OF THE DUMP (.gsa) THAT YtflpnbbdfjcggaaProg.lean LOADS. Nothing in Lean hashes anything: it is a label: what it is worth is what the hold of that sum in a sandbox is worth. -/
noncomputable def Try.pinned : Pinned := { name := "ytflpnbbdfjcggaa", sum := "522810a65e4e0fc100f59695a05347cb80408a58bccfe93906cada1c11fc99d0", checked := Try.checked }
namespace Rows
def none {H : Type} : Left H := { results := [], args := [] }

/-- 'laws.FnExactIsFactor': WHATEVER THE INPUT: true; the input reads as it did. -/
def fnExactIsFactorSpec : ChangeSpec := { name := "fnExactIsFactor", fn := fun _ => fun
  | [d1, d2] => { results := [.lit (.bool true)], args := [d1, d2] }
  | _ => none }
def fnExactIsFactorRow : OpenClaim := { program := "ytflpnbbdfjcggaa", sum := "522810a65e4e0fc100f59695a05347cb80408a58bccfe93906cada1c11fc99d0", func := "loop.example/g03209/laws.FnExactIsFactor", spec := "fnExactIsFactor", inPlace := ["internal/bytealg.IndexByteString", "internal/bytealg.IndexString"], named := ["internal/bytealg.MaxLen"], apart := false }
def FnExactIsFactorSaid : Prop := fnExactIsFactorRow.holds Try.pinned (OpenSpec.ofChange fnExactIsFactorSpec)

/-- ITS FALSE NEIGHBOUR: 'it returns false'. Refute it at one input. -/
def fnExactIsFactorWrong : ChangeSpec := { name := "fnExactIsFactor", fn := fun _ => fun
  | [d1, d2] => { results := [.lit (.bool false)], args := [d1, d2] }
  | _ => none }
def FnExactIsFactorWrongFalsely : Prop := fnExactIsFactorRow.holds Try.pinned (OpenSpec.ofChange fnExactIsFactorWrong)

/-- 'laws.FnExactFollowersOf': WHATEVER THE INPUT: true; the input reads as it did. -/
def fnExactFollowersOfSpec : ChangeSpec := { name := "fnExactFollowersOf", fn := fun _ => fun
  | [d1, d2] => { results := [.lit (.bool true)], args := [d1, d2] }
  | _ => none }
def fnExactFollowersOfRow : OpenClaim := { program := "ytflpnbbdfjcggaa", sum := "522810a65e4e0fc100f59695a05347cb80408a58bccfe93906cada1c11fc99d0", func := "loop.example/g03209/laws.FnExactFollowersOf", spec := "fnExactFollowersOf", inPlace := ["internal/bytealg.IndexByteString", "internal/bytealg.IndexString"], named := ["internal/bytealg.MaxLen"], apart := false }
def FnExactFollowersOfSaid : Prop := fnExactFollowersOfRow.holds Try.pinned (OpenSpec.ofChange fnExactFollowersOfSpec)

/-- ITS FALSE NEIGHBOUR: 'it returns false'. Refute it at one input. -/
def fnExactFollowersOfWrong : ChangeSpec := { name := "fnExactFollowersOf", fn := fun _ => fun
  | [d1, d2] => { results := [.lit (.bool false)], args := [d1, d2] }
  | _ => none }
def FnExactFollowersOfWrongFalsely : Prop := fnExactFollowersOfRow.holds Try.pinned (OpenSpec.ofChange fnExactFollowersOfWrong)

/-- 'laws.FnExactLeadersOf': WHATEVER THE INPUT: true; the input reads as it did. -/
def fnExactLeadersOfSpec : ChangeSpec := { name := "fnExactLeadersOf", fn := fun _ => fun
  | [d1, d2] => { results := [.lit (.bool true)], args := [d1, d2] }
  | _ => none }
def fnExactLeadersOfRow : OpenClaim := { program := "ytflpnbbdfjcggaa", sum := "522810a65e4e0fc100f59695a05347cb80408a58bccfe93906cada1c11fc99d0", func := "loop.example/g03209/laws.FnExactLeadersOf", spec := "fnExactLeadersOf", inPlace := ["internal/bytealg.IndexByteString", "internal/bytealg.IndexString"], named := ["internal/bytealg.MaxLen"], apart := false }
def FnExactLeadersOfSaid : Prop := fnExactLeadersOfRow.holds Try.pinned (OpenSpec.ofChange fnExactLeadersOfSpec)

/-- ITS FALSE NEIGHBOUR: 'it returns false'. Refute it at one input. -/
def fnExactLeadersOfWrong : ChangeSpec := { name := "fnExactLeadersOf", fn := fun _ => fun
  | [d1, d2] => { results := [.lit (.bool false)], args := [d1, d2] }
  | _ => none }
def FnExactLeadersOfWrongFalsely : Prop := fnExactLeadersOfRow.holds Try.pinned (OpenSpec.ofChange fnExactLeadersOfWrong)

/-- 'laws.FnExactComplexityOf': WHATEVER THE INPUT: true; the input reads as it did. -/
def fnExactComplexityOfSpec : ChangeSpec := { name := "fnExactComplexityOf", fn := fun _ => fun
  | [d1, d2] => { results := [.lit (.bool true)], args := [d1, d2] }
  | _ => none }
def fnExactComplexityOfRow : OpenClaim := { program := "ytflpnbbdfjcggaa", sum := "522810a65e4e0fc100f59695a05347cb80408a58bccfe93906cada1c11fc99d0", func := "loop.example/g03209/laws.FnExactComplexityOf", spec := "fnExactComplexityOf", recurses := true, apart := false }
def FnExactComplexityOfSaid : Prop := fnExactComplexityOfRow.holds Try.pinned (OpenSpec.ofChange fnExactComplexityOfSpec)

/-- ITS FALSE NEIGHBOUR: 'it returns false'. Refute it at one input. -/
def fnExactComplexityOfWrong : ChangeSpec := { name := "fnExactComplexityOf", fn := fun _ => fun
  | [d1, d2] => { results := [.lit (.bool false)], args := [d1, d2] }
  | _ => none }
def FnExactComplexityOfWrongFalsely : Prop := fnExactComplexityOfRow.holds Try.pinned (OpenSpec.ofChange fnExactComplexityOfWrong)

/-- 'laws.FnExactAllFactors': WHATEVER THE INPUT: true; the input reads as it did. -/
def fnExactAllFactorsSpec : ChangeSpec := { name := "fnExactAllFactors", fn := fun _ => fun
  | [d] => { results := [.lit (.bool true)], args := [d] }
  | _ => none }
def fnExactAllFactorsRow : OpenClaim := { program := "ytflpnbbdfjcggaa", sum := "522810a65e4e0fc100f59695a05347cb80408a58bccfe93906cada1c11fc99d0", func := "loop.example/g03209/laws.FnExactAllFactors", spec := "fnExactAllFactors", recurses := true, apart := false }
def FnExactAllFactorsSaid : Prop := fnExactAllFactorsRow.holds Try.pinned (OpenSpec.ofChange fnExactAllFactorsSpec)

/-- ITS FALSE NEIGHBOUR: 'it returns false'. Refute it at one input. -/
def fnExactAllFactorsWrong : ChangeSpec := { name := "fnExactAllFactors", fn := fun _ => fun
  | [d] => { results := [.lit (.bool false)], args := [d] }
  | _ => none }
def FnExactAllFactorsWrongFalsely : Prop := fnExactAllFactorsRow.holds Try.pinned (OpenSpec.ofChange fnExactAllFactorsWrong)

/-- 'laws.FnExactFactorsOf': WHATEVER THE INPUT: true; the input reads as it did. -/
def fnExactFactorsOfSpec : ChangeSpec := { name := "fnExactFactorsOf", fn := fun _ => fun
  | [d1, d2] => { results := [.lit (.bool true)], args := [d1, d2] }
  | _ => none }
def fnExactFactorsOfRow : OpenClaim := { program := "ytflpnbbdfjcggaa", sum := "522810a65e4e0fc100f59695a05347cb80408a58bccfe93906cada1c11fc99d0", func := "loop.example/g03209/laws.FnExactFactorsOf", spec := "fnExactFactorsOf", recurses := true, apart := false }
def FnExactFactorsOfSaid : Prop := fnExactFactorsOfRow.holds Try.pinned (OpenSpec.ofChange fnExactFactorsOfSpec)

/-- ITS FALSE NEIGHBOUR: 'it returns false'. Refute it at one input. -/
def fnExactFactorsOfWrong : ChangeSpec := { name := "fnExactFactorsOf", fn := fun _ => fun
  | [d1, d2] => { results := [.lit (.bool false)], args := [d1, d2] }
  | _ => none }
def FnExactFactorsOfWrongFalsely : Prop := fnExactFactorsOfRow.holds Try.pinned (OpenSpec.ofChange fnExactFactorsOfWrong)

/-- 'laws.FnExactReachOf': WHATEVER THE INPUT: true; the input reads as it did. -/
def fnExactReachOfSpec : ChangeSpec := { name := "fnExactReachOf", fn := fun _ => fun
  | [d1, d2] => { results := [.lit (.bool true)], args := [d1, d2] }
  | _ => none }
def fnExactReachOfRow : OpenClaim := { program := "ytflpnbbdfjcggaa", sum := "522810a65e4e0fc100f59695a05347cb80408a58bccfe93906cada1c11fc99d0", func := "loop.example/g03209/laws.FnExactReachOf", spec := "fnExactReachOf", recurses := true, apart := false }
def FnExactReachOfSaid : Prop := fnExactReachOfRow.holds Try.pinned (OpenSpec.ofChange fnExactReachOfSpec)

/-- ITS FALSE NEIGHBOUR: 'it returns false'. Refute it at one input. -/
def fnExactReachOfWrong : ChangeSpec := { name := "fnExactReachOf", fn := fun _ => fun
  | [d1, d2] => { results := [.lit (.bool false)], args := [d1, d2] }
  | _ => none }
def FnExactReachOfWrongFalsely : Prop := fnExactReachOfRow.holds Try.pinned (OpenSpec.ofChange fnExactReachOfWrong)

/-- 'laws.FnExactGraphOf': WHATEVER THE INPUT: true; the input reads as it did. -/
def fnExactGraphOfSpec : ChangeSpec := { name := "fnExactGraphOf", fn := fun _ => fun
  | [d1, d2] => { results := [.lit (.bool true)], args := [d1, d2] }
  | _ => none }
def fnExactGraphOfRow : OpenClaim := { program := "ytflpnbbdfjcggaa", sum := "522810a65e4e0fc100f59695a05347cb80408a58bccfe93906cada1c11fc99d0", func := "loop.example/g03209/laws.FnExactGraphOf", spec := "fnExactGraphOf", recurses := true, apart := false }
def FnExactGraphOfSaid : Prop := fnExactGraphOfRow.holds Try.pinned (OpenSpec.ofChange fnExactGraphOfSpec)

/-- ITS FALSE NEIGHBOUR: 'it returns false'. Refute it at one input. -/
def fnExactGraphOfWrong : ChangeSpec := { name := "fnExactGraphOf", fn := fun _ => fun
  | [d1, d2] => { results := [.lit (.bool false)], args := [d1, d2] }
  | _ => none }
def FnExactGraphOfWrongFalsely : Prop := fnExactGraphOfRow.holds Try.pinned (OpenSpec.ofChange fnExactGraphOfWrong)

/-- 'laws.FnExactFixedFactors': WHATEVER THE INPUT: true; the input reads as it did. -/
def fnExactFixedFactorsSpec : ChangeSpec := { name := "fnExactFixedFactors", fn := fun _ => fun
  | [d1, d2, d3] => { results := [.lit (.bool true)], args := [d1, d2, d3] }
  | _ => none }
def fnExactFixedFactorsRow : OpenClaim := { program := "ytflpnbbdfjcggaa", sum := "522810a65e4e0fc100f59695a05347cb80408a58bccfe93906cada1c11fc99d0", func := "loop.example/g03209/laws.FnExactFixedFactors", spec := "fnExactFixedFactors", recurses := true, apart := false }
def FnExactFixedFactorsSaid : Prop := fnExactFixedFactorsRow.holds Try.pinned (OpenSpec.ofChange fnExactFixedFactorsSpec)

/-- ITS FALSE NEIGHBOUR: 'it returns false'. Refute it at one input. -/
def fnExactFixedFactorsWrong : ChangeSpec := { name := "fnExactFixedFactors", fn := fun _ => fun
  | [d1, d2, d3] => { results := [.lit (.bool false)], args := [d1, d2, d3] }
  | _ => none }
def FnExactFixedFactorsWrongFalsely : Prop := fnExactFixedFactorsRow.holds Try.pinned (OpenSpec.ofChange fnExactFixedFactorsWrong)

/-- 'laws.FnExactLeftSpecial': WHATEVER THE INPUT: true; the input reads as it did. -/
def fnExactLeftSpecialSpec : ChangeSpec := { name := "fnExactLeftSpecial", fn := fun _ => fun
  | [d1, d2] => { results := [.lit (.bool true)], args := [d1, d2] }
  | _ => none }
def fnExactLeftSpecialRow : OpenClaim := { program := "ytflpnbbdfjcggaa", sum := "522810a65e4e0fc100f59695a05347cb80408a58bccfe93906cada1c11fc99d0", func := "loop.example/g03209/laws.FnExactLeftSpecial", spec := "fnExactLeftSpecial", inPlace := ["internal/bytealg.IndexByteString", "internal/bytealg.IndexString"], recurses := true, named := ["internal/bytealg.MaxLen"], apart := false }
def FnExactLeftSpecialSaid : Prop := fnExactLeftSpecialRow.holds Try.pinned (OpenSpec.ofChange fnExactLeftSpecialSpec)

/-- ITS FALSE NEIGHBOUR: 'it returns false'. Refute it at one input. -/
def fnExactLeftSpecialWrong : ChangeSpec := { name := "fnExactLeftSpecial", fn := fun _ => fun
  | [d1, d2] => { results := [.lit (.bool false)], args := [d1, d2] }
  | _ => none }
def FnExactLeftSpecialWrongFalsely : Prop := fnExactLeftSpecialRow.holds Try.pinned (OpenSpec.ofChange fnExactLeftSpecialWrong)

/-- 'laws.FnExactRightSpecial': WHATEVER THE INPUT: true; the input reads as it did. -/
def fnExactRightSpecialSpec : ChangeSpec := { name := "fnExactRightSpecial", fn := fun _ => fun
  | [d1, d2] => { results := [.lit (.bool true)], args := [d1, d2] }
  | _ => none }
def fnExactRightSpecialRow : OpenClaim := { program := "ytflpnbbdfjcggaa", sum := "522810a65e4e0fc100f59695a05347cb80408a58bccfe93906cada1c11fc99d0", func := "loop.example/g03209/laws.FnExactRightSpecial", spec := "fnExactRightSpecial", inPlace := ["internal/bytealg.IndexByteString", "internal/bytealg.IndexString"], recurses := true, named := ["internal/bytealg.MaxLen"], apart := false }
def FnExactRightSpecialSaid : Prop := fnExactRightSpecialRow.holds Try.pinned (OpenSpec.ofChange fnExactRightSpecialSpec)

/-- ITS FALSE NEIGHBOUR: 'it returns false'. Refute it at one input. -/
def fnExactRightSpecialWrong : ChangeSpec := { name := "fnExactRightSpecial", fn := fun _ => fun
  | [d1, d2] => { results := [.lit (.bool false)], args := [d1, d2] }
  | _ => none }
def FnExactRightSpecialWrongFalsely : Prop := fnExactRightSpecialRow.holds Try.pinned (OpenSpec.ofChange fnExactRightSpecialWrong)

/- THE SECOND FORM. 'bulk': how many values and letters a reading holds, each counted each time it is reached (what is shared counts as often as it is met; a slice's spare places count too). A statement '..UptoSaid' is the law's where the arguments, and the package variables that the reading takes, are together of bulk at most 1048576: NARROWER than '..Said'. Prove '..Said' where nothing that the law and all that it calls make is longer than what came in: it says more and counts as full. Else prove '..UptoSaid'. A law counts once. -/
mutual
def uptoBulk {H : Type} : DataW H → Nat
  | .lit (.string bytes) => bytes.length + 1
  | .lit _ => 1
  | .nil => 1
  | .ptr d => uptoBulk d + 1
  | .slice elems spare => uptoBulkAll elems + uptoBulkAll spare + 1
  | .agg parts => uptoBulkAll parts + 1
  | .iface _ d => uptoBulk d + 1
  | .map entries => uptoBulkEntries entries + 1
  | .held _ => 1
def uptoBulkAll {H : Type} : List (DataW H) → Nat
  | [] => 0
  | d :: r => uptoBulk d + uptoBulkAll r
def uptoBulkEntries {H : Type} : List (Lit × DataW H) → Nat
  | [] => 0
  | x :: r => uptoBulkEntry x + uptoBulkEntries r
def uptoBulkEntry {H : Type} : Lit × DataW H → Nat
  | (.string bytes, d) => bytes.length + uptoBulk d + 1
  | (_, d) => uptoBulk d + 1
 end
def uptoSmall : (H : Type) → List (DataW H) → Bool := fun _ ds => decide (uptoBulkAll ds ≤ 1048576)
def OpenSpec.upto (s : _root_.Go.ChangeSpec) : _root_.Go.OpenSpec := { _root_.Go.OpenSpec.ofChange s with cond := some uptoSmall }

/-- 'laws.FnExactIsFactor', WHERE WHAT IT READS IS OF BULK AT MOST 1048576: true; the input reads as it did. -/
def fnExactIsFactorUptoRow : OpenClaim := { program := "ytflpnbbdfjcggaa", sum := "522810a65e4e0fc100f59695a05347cb80408a58bccfe93906cada1c11fc99d0", func := "loop.example/g03209/laws.FnExactIsFactor", spec := "fnExactIsFactor", inPlace := ["internal/bytealg.IndexByteString", "internal/bytealg.IndexString"], named := ["internal/bytealg.MaxLen"], apart := false, narrowed := true }
def FnExactIsFactorUptoSaid : Prop := fnExactIsFactorUptoRow.holds Try.pinned (OpenSpec.upto fnExactIsFactorSpec)

/-- 'laws.FnExactFollowersOf', WHERE WHAT IT READS IS OF BULK AT MOST 1048576: true; the input reads as it did. -/
def fnExactFollowersOfUptoRow : OpenClaim := { program := "ytflpnbbdfjcggaa", sum := "522810a65e4e0fc100f59695a05347cb80408a58bccfe93906cada1c11fc99d0", func := "loop.example/g03209/laws.FnExactFollowersOf", spec := "fnExactFollowersOf", inPlace := ["internal/bytealg.IndexByteString", "internal/bytealg.IndexString"], named := ["internal/bytealg.MaxLen"], apart := false, narrowed := true }
def FnExactFollowersOfUptoSaid : Prop := fnExactFollowersOfUptoRow.holds Try.pinned (OpenSpec.upto fnExactFollowersOfSpec)

/-- 'laws.FnExactLeadersOf', WHERE WHAT IT READS IS OF BULK AT MOST 1048576: true; the input reads as it did. -/
def fnExactLeadersOfUptoRow : OpenClaim := { program := "ytflpnbbdfjcggaa", sum := "522810a65e4e0fc100f59695a05347cb80408a58bccfe93906cada1c11fc99d0", func := "loop.example/g03209/laws.FnExactLeadersOf", spec := "fnExactLeadersOf", inPlace := ["internal/bytealg.IndexByteString", "internal/bytealg.IndexString"], named := ["internal/bytealg.MaxLen"], apart := false, narrowed := true }
def FnExactLeadersOfUptoSaid : Prop := fnExactLeadersOfUptoRow.holds Try.pinned (OpenSpec.upto fnExactLeadersOfSpec)

/-- 'laws.FnExactComplexityOf', WHERE WHAT IT READS IS OF BULK AT MOST 1048576: true; the input reads as it did. -/
def fnExactComplexityOfUptoRow : OpenClaim := { program := "ytflpnbbdfjcggaa", sum := "522810a65e4e0fc100f59695a05347cb80408a58bccfe93906cada1c11fc99d0", func := "loop.example/g03209/laws.FnExactComplexityOf", spec := "fnExactComplexityOf", recurses := true, apart := false, narrowed := true }
def FnExactComplexityOfUptoSaid : Prop := fnExactComplexityOfUptoRow.holds Try.pinned (OpenSpec.upto fnExactComplexityOfSpec)

/-- 'laws.FnExactAllFactors', WHERE WHAT IT READS IS OF BULK AT MOST 1048576: true; the input reads as it did. -/
def fnExactAllFactorsUptoRow : OpenClaim := { program := "ytflpnbbdfjcggaa", sum := "522810a65e4e0fc100f59695a05347cb80408a58bccfe93906cada1c11fc99d0", func := "loop.example/g03209/laws.FnExactAllFactors", spec := "fnExactAllFactors", recurses := true, apart := false, narrowed := true }
def FnExactAllFactorsUptoSaid : Prop := fnExactAllFactorsUptoRow.holds Try.pinned (OpenSpec.upto fnExactAllFactorsSpec)

/-- 'laws.FnExactFactorsOf', WHERE WHAT IT READS IS OF BULK AT MOST 1048576: true; the input reads as it did. -/
def fnExactFactorsOfUptoRow : OpenClaim := { program := "ytflpnbbdfjcggaa", sum := "522810a65e4e0fc100f59695a05347cb80408a58bccfe93906cada1c11fc99d0", func := "loop.example/g03209/laws.FnExactFactorsOf", spec := "fnExactFactorsOf", recurses := true, apart := false, narrowed := true }
def FnExactFactorsOfUptoSaid : Prop := fnExactFactorsOfUptoRow.holds Try.pinned (OpenSpec.upto fnExactFactorsOfSpec)

/-- 'laws.FnExactReachOf', WHERE WHAT IT READS IS OF BULK AT MOST 1048576: true; the input reads as it did. -/
def fnExactReachOfUptoRow : OpenClaim := { program := "ytflpnbbdfjcggaa", sum := "522810a65e4e0fc100f59695a05347cb80408a58bccfe93906cada1c11fc99d0", func := "loop.example/g03209/laws.FnExactReachOf", spec := "fnExactReachOf", recurses := true, apart := false, narrowed := true }
def FnExactReachOfUptoSaid : Prop := fnExactReachOfUptoRow.holds Try.pinned (OpenSpec.upto fnExactReachOfSpec)

/-- 'laws.FnExactGraphOf', WHERE WHAT IT READS IS OF BULK AT MOST 1048576: true; the input reads as it did. -/
def fnExactGraphOfUptoRow : OpenClaim := { program := "ytflpnbbdfjcggaa", sum := "522810a65e4e0fc100f59695a05347cb80408a58bccfe93906cada1c11fc99d0", func := "loop.example/g03209/laws.FnExactGraphOf", spec := "fnExactGraphOf", recurses := true, apart := false, narrowed := true }
def FnExactGraphOfUptoSaid : Prop := fnExactGraphOfUptoRow.holds Try.pinned (OpenSpec.upto fnExactGraphOfSpec)

/-- 'laws.FnExactFixedFactors', WHERE WHAT IT READS IS OF BULK AT MOST 1048576: true; the input reads as it did. -/
def fnExactFixedFactorsUptoRow : OpenClaim := { program := "ytflpnbbdfjcggaa", sum := "522810a65e4e0fc100f59695a05347cb80408a58bccfe93906cada1c11fc99d0", func := "loop.example/g03209/laws.FnExactFixedFactors", spec := "fnExactFixedFactors", recurses := true, apart := false, narrowed := true }
def FnExactFixedFactorsUptoSaid : Prop := fnExactFixedFactorsUptoRow.holds Try.pinned (OpenSpec.upto fnExactFixedFactorsSpec)

/-- 'laws.FnExactLeftSpecial', WHERE WHAT IT READS IS OF BULK AT MOST 1048576: true; the input reads as it did. -/
def fnExactLeftSpecialUptoRow : OpenClaim := { program := "ytflpnbbdfjcggaa", sum := "522810a65e4e0fc100f59695a05347cb80408a58bccfe93906cada1c11fc99d0", func := "loop.example/g03209/laws.FnExactLeftSpecial", spec := "fnExactLeftSpecial", inPlace := ["internal/bytealg.IndexByteString", "internal/bytealg.IndexString"], recurses := true, named := ["internal/bytealg.MaxLen"], apart := false, narrowed := true }
def FnExactLeftSpecialUptoSaid : Prop := fnExactLeftSpecialUptoRow.holds Try.pinned (OpenSpec.upto fnExactLeftSpecialSpec)

/-- 'laws.FnExactRightSpecial', WHERE WHAT IT READS IS OF BULK AT MOST 1048576: true; the input reads as it did. -/
def fnExactRightSpecialUptoRow : OpenClaim := { program := "ytflpnbbdfjcggaa", sum := "522810a65e4e0fc100f59695a05347cb80408a58bccfe93906cada1c11fc99d0", func := "loop.example/g03209/laws.FnExactRightSpecial", spec := "fnExactRightSpecial", inPlace := ["internal/bytealg.IndexByteString", "internal/bytealg.IndexString"], recurses := true, named := ["internal/bytealg.MaxLen"], apart := false, narrowed := true }
def FnExactRightSpecialUptoSaid : Prop := fnExactRightSpecialUptoRow.holds Try.pinned (OpenSpec.upto fnExactRightSpecialSpec)

end Rows
end Go.Proofs.Ytflpnbbdfjcggaa
