/-
  No cell of these rows narrows 'for every input' (looked for: loops, veiled, ifaces, maps, wideKeys, modest, calm, conditions, laid).
  DERIVED. THE GIVEN ROWS OF THIS SEAT. 10 by the template 'for every input the law returns true; each argument reads behind the call as it read before'; 0 by the template 'total and deterministic' (their statements: YtglleimmmfnhcaaTotals.lean).
  GIVEN WITH THE SEED: the statements are not yours to turn. If you find one false, say at which input.
  Laid BY PROGRAM, IN A SANDBOX (cutbox-rows.mjs): the forced cells as the released guide's own fill.sh prints them over the translation 777f1ca1d82f31cc… (all of the seat's roots in one cut). By AI agents, Wed Nov 11 2026. No macro, syntax, notation, axiom, sorry.
-/
import Derived.Test.YtglleimmmfnhcaaChecked
import GoSem.Claim
import GoSem.ClaimJoined
import GoSem.ClaimMapViews
import Derived.JoinedTies
import Derived.KernelRfl
namespace Go.Proofs.Ytglleimmmfnhcaa
/- THE CELL 'sum', in the pinned program and in every row, IS THE sha256 OF THE DUMP (.gsa) THAT YtglleimmmfnhcaaProg.lean LOADS. Nothing in Lean hashes anything: it is a label: what it is worth is what the hold of that sum in a sandbox is worth. -/
noncomputable def Try.pinned : Pinned := { name := "ytglleimmmfnhcaa", sum := "777f1ca1d82f31cc22431bb53d0e00759cab3369dc81ea9bfcc0184c5ba17ddd", checked := Try.checked }
namespace Rows
def none {H : Type} : Left H := { results := [], args := [] }

/-- 'laws.FnExactFixedPoint': WHATEVER THE INPUT: true; the input reads as it did. -/
def fnExactFixedPointSpec : ChangeSpec := { name := "fnExactFixedPoint", fn := fun _ => fun
  | [d1, d2, d3] => { results := [.lit (.bool true)], args := [d1, d2, d3] }
  | _ => none }
def fnExactFixedPointRow : OpenClaim := { program := "ytglleimmmfnhcaa", sum := "777f1ca1d82f31cc22431bb53d0e00759cab3369dc81ea9bfcc0184c5ba17ddd", func := "loop.example/g03209/laws.FnExactFixedPoint", spec := "fnExactFixedPoint", apart := false }
def FnExactFixedPointSaid : Prop := fnExactFixedPointRow.holds Try.pinned (OpenSpec.ofChange fnExactFixedPointSpec)

/-- ITS FALSE NEIGHBOUR: 'it returns false'. Refute it at one input. -/
def fnExactFixedPointWrong : ChangeSpec := { name := "fnExactFixedPoint", fn := fun _ => fun
  | [d1, d2, d3] => { results := [.lit (.bool false)], args := [d1, d2, d3] }
  | _ => none }
def FnExactFixedPointWrongFalsely : Prop := fnExactFixedPointRow.holds Try.pinned (OpenSpec.ofChange fnExactFixedPointWrong)

/-- 'laws.FnExactIsFixedStart': WHATEVER THE INPUT: true; the input reads as it did. -/
def fnExactIsFixedStartSpec : ChangeSpec := { name := "fnExactIsFixedStart", fn := fun _ => fun
  | [d1, d2] => { results := [.lit (.bool true)], args := [d1, d2] }
  | _ => none }
def fnExactIsFixedStartRow : OpenClaim := { program := "ytglleimmmfnhcaa", sum := "777f1ca1d82f31cc22431bb53d0e00759cab3369dc81ea9bfcc0184c5ba17ddd", func := "loop.example/g03209/laws.FnExactIsFixedStart", spec := "fnExactIsFixedStart", apart := false }
def FnExactIsFixedStartSaid : Prop := fnExactIsFixedStartRow.holds Try.pinned (OpenSpec.ofChange fnExactIsFixedStartSpec)

/-- ITS FALSE NEIGHBOUR: 'it returns false'. Refute it at one input. -/
def fnExactIsFixedStartWrong : ChangeSpec := { name := "fnExactIsFixedStart", fn := fun _ => fun
  | [d1, d2] => { results := [.lit (.bool false)], args := [d1, d2] }
  | _ => none }
def FnExactIsFixedStartWrongFalsely : Prop := fnExactIsFixedStartRow.holds Try.pinned (OpenSpec.ofChange fnExactIsFixedStartWrong)

/-- 'laws.FnExactLetterAt': WHATEVER THE INPUT: true; the input reads as it did. -/
def fnExactLetterAtSpec : ChangeSpec := { name := "fnExactLetterAt", fn := fun _ => fun
  | [d1, d2, d3] => { results := [.lit (.bool true)], args := [d1, d2, d3] }
  | _ => none }
def fnExactLetterAtRow : OpenClaim := { program := "ytglleimmmfnhcaa", sum := "777f1ca1d82f31cc22431bb53d0e00759cab3369dc81ea9bfcc0184c5ba17ddd", func := "loop.example/g03209/laws.FnExactLetterAt", spec := "fnExactLetterAt", apart := false }
def FnExactLetterAtSaid : Prop := fnExactLetterAtRow.holds Try.pinned (OpenSpec.ofChange fnExactLetterAtSpec)

/-- ITS FALSE NEIGHBOUR: 'it returns false'. Refute it at one input. -/
def fnExactLetterAtWrong : ChangeSpec := { name := "fnExactLetterAt", fn := fun _ => fun
  | [d1, d2, d3] => { results := [.lit (.bool false)], args := [d1, d2, d3] }
  | _ => none }
def FnExactLetterAtWrongFalsely : Prop := fnExactLetterAtRow.holds Try.pinned (OpenSpec.ofChange fnExactLetterAtWrong)

/-- 'laws.FnExactReachedBy': WHATEVER THE INPUT: true; the input reads as it did. -/
def fnExactReachedBySpec : ChangeSpec := { name := "fnExactReachedBy", fn := fun _ => fun
  | [d1, d2] => { results := [.lit (.bool true)], args := [d1, d2] }
  | _ => none }
def fnExactReachedByRow : OpenClaim := { program := "ytglleimmmfnhcaa", sum := "777f1ca1d82f31cc22431bb53d0e00759cab3369dc81ea9bfcc0184c5ba17ddd", func := "loop.example/g03209/laws.FnExactReachedBy", spec := "fnExactReachedBy", apart := false }
def FnExactReachedBySaid : Prop := fnExactReachedByRow.holds Try.pinned (OpenSpec.ofChange fnExactReachedBySpec)

/-- ITS FALSE NEIGHBOUR: 'it returns false'. Refute it at one input. -/
def fnExactReachedByWrong : ChangeSpec := { name := "fnExactReachedBy", fn := fun _ => fun
  | [d1, d2] => { results := [.lit (.bool false)], args := [d1, d2] }
  | _ => none }
def FnExactReachedByWrongFalsely : Prop := fnExactReachedByRow.holds Try.pinned (OpenSpec.ofChange fnExactReachedByWrong)

/-- 'laws.FnExactComposeSubst': WHATEVER THE INPUT: true; the input reads as it did. -/
def fnExactComposeSubstSpec : ChangeSpec := { name := "fnExactComposeSubst", fn := fun _ => fun
  | [d1, d2] => { results := [.lit (.bool true)], args := [d1, d2] }
  | _ => none }
def fnExactComposeSubstRow : OpenClaim := { program := "ytglleimmmfnhcaa", sum := "777f1ca1d82f31cc22431bb53d0e00759cab3369dc81ea9bfcc0184c5ba17ddd", func := "loop.example/g03209/laws.FnExactComposeSubst", spec := "fnExactComposeSubst", apart := false }
def FnExactComposeSubstSaid : Prop := fnExactComposeSubstRow.holds Try.pinned (OpenSpec.ofChange fnExactComposeSubstSpec)

/-- ITS FALSE NEIGHBOUR: 'it returns false'. Refute it at one input. -/
def fnExactComposeSubstWrong : ChangeSpec := { name := "fnExactComposeSubst", fn := fun _ => fun
  | [d1, d2] => { results := [.lit (.bool false)], args := [d1, d2] }
  | _ => none }
def FnExactComposeSubstWrongFalsely : Prop := fnExactComposeSubstRow.holds Try.pinned (OpenSpec.ofChange fnExactComposeSubstWrong)

/-- 'laws.FnExactIsPrimitiveSubst': WHATEVER THE INPUT: true; the input reads as it did. -/
def fnExactIsPrimitiveSubstSpec : ChangeSpec := { name := "fnExactIsPrimitiveSubst", fn := fun _ => fun
  | [d] => { results := [.lit (.bool true)], args := [d] }
  | _ => none }
def fnExactIsPrimitiveSubstRow : OpenClaim := { program := "ytglleimmmfnhcaa", sum := "777f1ca1d82f31cc22431bb53d0e00759cab3369dc81ea9bfcc0184c5ba17ddd", func := "loop.example/g03209/laws.FnExactIsPrimitiveSubst", spec := "fnExactIsPrimitiveSubst", inPlace := ["internal/bytealg.CountString", "internal/bytealg.IndexByteString", "internal/bytealg.IndexString"], named := ["internal/bytealg.MaxLen"], apart := false }
def FnExactIsPrimitiveSubstSaid : Prop := fnExactIsPrimitiveSubstRow.holds Try.pinned (OpenSpec.ofChange fnExactIsPrimitiveSubstSpec)

/-- ITS FALSE NEIGHBOUR: 'it returns false'. Refute it at one input. -/
def fnExactIsPrimitiveSubstWrong : ChangeSpec := { name := "fnExactIsPrimitiveSubst", fn := fun _ => fun
  | [d] => { results := [.lit (.bool false)], args := [d] }
  | _ => none }
def FnExactIsPrimitiveSubstWrongFalsely : Prop := fnExactIsPrimitiveSubstRow.holds Try.pinned (OpenSpec.ofChange fnExactIsPrimitiveSubstWrong)

/-- 'laws.FnExactCountAfter': WHATEVER THE INPUT: true; the input reads as it did. -/
def fnExactCountAfterSpec : ChangeSpec := { name := "fnExactCountAfter", fn := fun _ => fun
  | [d1, d2, d3] => { results := [.lit (.bool true)], args := [d1, d2, d3] }
  | _ => none }
def fnExactCountAfterRow : OpenClaim := { program := "ytglleimmmfnhcaa", sum := "777f1ca1d82f31cc22431bb53d0e00759cab3369dc81ea9bfcc0184c5ba17ddd", func := "loop.example/g03209/laws.FnExactCountAfter", spec := "fnExactCountAfter", inPlace := ["internal/bytealg.CountString", "internal/bytealg.IndexByteString", "internal/bytealg.IndexString"], named := ["internal/bytealg.MaxLen"], apart := false }
def FnExactCountAfterSaid : Prop := fnExactCountAfterRow.holds Try.pinned (OpenSpec.ofChange fnExactCountAfterSpec)

/-- ITS FALSE NEIGHBOUR: 'it returns false'. Refute it at one input. -/
def fnExactCountAfterWrong : ChangeSpec := { name := "fnExactCountAfter", fn := fun _ => fun
  | [d1, d2, d3] => { results := [.lit (.bool false)], args := [d1, d2, d3] }
  | _ => none }
def FnExactCountAfterWrongFalsely : Prop := fnExactCountAfterRow.holds Try.pinned (OpenSpec.ofChange fnExactCountAfterWrong)

/-- 'laws.FnExactLengthAfter': WHATEVER THE INPUT: true; the input reads as it did. -/
def fnExactLengthAfterSpec : ChangeSpec := { name := "fnExactLengthAfter", fn := fun _ => fun
  | [d1, d2, d3] => { results := [.lit (.bool true)], args := [d1, d2, d3] }
  | _ => none }
def fnExactLengthAfterRow : OpenClaim := { program := "ytglleimmmfnhcaa", sum := "777f1ca1d82f31cc22431bb53d0e00759cab3369dc81ea9bfcc0184c5ba17ddd", func := "loop.example/g03209/laws.FnExactLengthAfter", spec := "fnExactLengthAfter", inPlace := ["internal/bytealg.CountString", "internal/bytealg.IndexByteString", "internal/bytealg.IndexString"], named := ["internal/bytealg.MaxLen"], apart := false }
def FnExactLengthAfterSaid : Prop := fnExactLengthAfterRow.holds Try.pinned (OpenSpec.ofChange fnExactLengthAfterSpec)

/-- ITS FALSE NEIGHBOUR: 'it returns false'. Refute it at one input. -/
def fnExactLengthAfterWrong : ChangeSpec := { name := "fnExactLengthAfter", fn := fun _ => fun
  | [d1, d2, d3] => { results := [.lit (.bool false)], args := [d1, d2, d3] }
  | _ => none }
def FnExactLengthAfterWrongFalsely : Prop := fnExactLengthAfterRow.holds Try.pinned (OpenSpec.ofChange fnExactLengthAfterWrong)

/-- 'laws.FnExactGraphOf': WHATEVER THE INPUT: true; the input reads as it did. -/
def fnExactGraphOfSpec : ChangeSpec := { name := "fnExactGraphOf", fn := fun _ => fun
  | [d1, d2] => { results := [.lit (.bool true)], args := [d1, d2] }
  | _ => none }
def fnExactGraphOfRow : OpenClaim := { program := "ytglleimmmfnhcaa", sum := "777f1ca1d82f31cc22431bb53d0e00759cab3369dc81ea9bfcc0184c5ba17ddd", func := "loop.example/g03209/laws.FnExactGraphOf", spec := "fnExactGraphOf", recurses := true, apart := false }
def FnExactGraphOfSaid : Prop := fnExactGraphOfRow.holds Try.pinned (OpenSpec.ofChange fnExactGraphOfSpec)

/-- ITS FALSE NEIGHBOUR: 'it returns false'. Refute it at one input. -/
def fnExactGraphOfWrong : ChangeSpec := { name := "fnExactGraphOf", fn := fun _ => fun
  | [d1, d2] => { results := [.lit (.bool false)], args := [d1, d2] }
  | _ => none }
def FnExactGraphOfWrongFalsely : Prop := fnExactGraphOfRow.holds Try.pinned (OpenSpec.ofChange fnExactGraphOfWrong)

/-- 'laws.FnExactFixedFactors': WHATEVER THE INPUT: true; the input reads as it did. -/
def fnExactFixedFactorsSpec : ChangeSpec := { name := "fnExactFixedFactors", fn := fun _ => fun
  | [d1, d2, d3] => { results := [.lit (.bool true)], args := [d1, d2, d3] }
  | _ => none }
def fnExactFixedFactorsRow : OpenClaim := { program := "ytglleimmmfnhcaa", sum := "777f1ca1d82f31cc22431bb53d0e00759cab3369dc81ea9bfcc0184c5ba17ddd", func := "loop.example/g03209/laws.FnExactFixedFactors", spec := "fnExactFixedFactors", recurses := true, apart := false }
def FnExactFixedFactorsSaid : Prop := fnExactFixedFactorsRow.holds Try.pinned (OpenSpec.ofChange fnExactFixedFactorsSpec)

/-- ITS FALSE NEIGHBOUR: 'it returns false'. Refute it at one input. -/
def fnExactFixedFactorsWrong : ChangeSpec := { name := "fnExactFixedFactors", fn := fun _ => fun
  | [d1, d2, d3] => { results := [.lit (.bool false)], args := [d1, d2, d3] }
  | _ => none }
def FnExactFixedFactorsWrongFalsely : Prop := fnExactFixedFactorsRow.holds Try.pinned (OpenSpec.ofChange fnExactFixedFactorsWrong)

/- THE SECOND FORM. 'bulk': how many values and letters a reading holds, each counted each time it is reached (what is shared counts as often as it is met; a slice's spare places count too). A statement '..UptoSaid' is the law's where the arguments, and the package variables that the reading takes, are together of bulk at most 1048576: NARROWER than '..Said'. Prove '..Said' where nothing that the law and all that it calls make is longer than what came in: it says more and counts as full. Else prove '..UptoSaid'. A law counts once. -/
mutual
def uptoBulk {H : Type} : DataW H → Nat
  | .lit (.string bytes) => bytes.length + 1
  | .lit _ => 1
  | .nil => 1
  | .ptr d => uptoBulk d + 1
  | .slice elems spare => uptoBulkAll elems + uptoBulkAll spare + 1
  | .agg parts => uptoBulkAll parts + 1
  | .iface _ d => uptoBulk d + 1
  | .map entries => uptoBulkEntries entries + 1
  | .held _ => 1
def uptoBulkAll {H : Type} : List (DataW H) → Nat
  | [] => 0
  | d :: r => uptoBulk d + uptoBulkAll r
def uptoBulkEntries {H : Type} : List (Lit × DataW H) → Nat
  | [] => 0
  | x :: r => uptoBulkEntry x + uptoBulkEntries r
def uptoBulkEntry {H : Type} : Lit × DataW H → Nat
  | (.string bytes, d) => bytes.length + uptoBulk d + 1
  | (_, d) => uptoBulk d + 1
 end
def uptoSmall : (H : Type) → List (DataW H) → Bool := fun _ ds => decide (uptoBulkAll ds ≤ 1048576)
def OpenSpec.upto (s : _root_.Go.ChangeSpec) : _root_.Go.OpenSpec := { _root_.Go.OpenSpec.ofChange s with cond := some uptoSmall }

/-- 'laws.FnExactFixedPoint', WHERE WHAT IT READS IS OF BULK AT MOST 1048576: true; the input reads as it did. -/
def fnExactFixedPointUptoRow : OpenClaim := { program := "ytglleimmmfnhcaa", sum := "777f1ca1d82f31cc22431bb53d0e00759cab3369dc81ea9bfcc0184c5ba17ddd", func := "loop.example/g03209/laws.FnExactFixedPoint", spec := "fnExactFixedPoint", apart := false, narrowed := true }
def FnExactFixedPointUptoSaid : Prop := fnExactFixedPointUptoRow.holds Try.pinned (OpenSpec.upto fnExactFixedPointSpec)

/-- 'laws.FnExactIsFixedStart', WHERE WHAT IT READS IS OF BULK AT MOST 1048576: true; the input reads as it did. -/
def fnExactIsFixedStartUptoRow : OpenClaim := { program := "ytglleimmmfnhcaa", sum := "777f1ca1d82f31cc22431bb53d0e00759cab3369dc81ea9bfcc0184c5ba17ddd", func := "loop.example/g03209/laws.FnExactIsFixedStart", spec := "fnExactIsFixedStart", apart := false, narrowed := true }
def FnExactIsFixedStartUptoSaid : Prop := fnExactIsFixedStartUptoRow.holds Try.pinned (OpenSpec.upto fnExactIsFixedStartSpec)

/-- 'laws.FnExactLetterAt', WHERE WHAT IT READS IS OF BULK AT MOST 1048576: true; the input reads as it did. -/
def fnExactLetterAtUptoRow : OpenClaim := { program := "ytglleimmmfnhcaa", sum := "777f1ca1d82f31cc22431bb53d0e00759cab3369dc81ea9bfcc0184c5ba17ddd", func := "loop.example/g03209/laws.FnExactLetterAt", spec := "fnExactLetterAt", apart := false, narrowed := true }
def FnExactLetterAtUptoSaid : Prop := fnExactLetterAtUptoRow.holds Try.pinned (OpenSpec.upto fnExactLetterAtSpec)

/-- 'laws.FnExactReachedBy', WHERE WHAT IT READS IS OF BULK AT MOST 1048576: true; the input reads as it did. -/
def fnExactReachedByUptoRow : OpenClaim := { program := "ytglleimmmfnhcaa", sum := "777f1ca1d82f31cc22431bb53d0e00759cab3369dc81ea9bfcc0184c5ba17ddd", func := "loop.example/g03209/laws.FnExactReachedBy", spec := "fnExactReachedBy", apart := false, narrowed := true }
def FnExactReachedByUptoSaid : Prop := fnExactReachedByUptoRow.holds Try.pinned (OpenSpec.upto fnExactReachedBySpec)

/-- 'laws.FnExactComposeSubst', WHERE WHAT IT READS IS OF BULK AT MOST 1048576: true; the input reads as it did. -/
def fnExactComposeSubstUptoRow : OpenClaim := { program := "ytglleimmmfnhcaa", sum := "777f1ca1d82f31cc22431bb53d0e00759cab3369dc81ea9bfcc0184c5ba17ddd", func := "loop.example/g03209/laws.FnExactComposeSubst", spec := "fnExactComposeSubst", apart := false, narrowed := true }
def FnExactComposeSubstUptoSaid : Prop := fnExactComposeSubstUptoRow.holds Try.pinned (OpenSpec.upto fnExactComposeSubstSpec)

/-- 'laws.FnExactIsPrimitiveSubst', WHERE WHAT IT READS IS OF BULK AT MOST 1048576: true; the input reads as it did. -/
def fnExactIsPrimitiveSubstUptoRow : OpenClaim := { program := "ytglleimmmfnhcaa", sum := "777f1ca1d82f31cc22431bb53d0e00759cab3369dc81ea9bfcc0184c5ba17ddd", func := "loop.example/g03209/laws.FnExactIsPrimitiveSubst", spec := "fnExactIsPrimitiveSubst", inPlace := ["internal/bytealg.CountString", "internal/bytealg.IndexByteString", "internal/bytealg.IndexString"], named := ["internal/bytealg.MaxLen"], apart := false, narrowed := true }
def FnExactIsPrimitiveSubstUptoSaid : Prop := fnExactIsPrimitiveSubstUptoRow.holds Try.pinned (OpenSpec.upto fnExactIsPrimitiveSubstSpec)

/-- 'laws.FnExactCountAfter', WHERE WHAT IT READS IS OF BULK AT MOST 1048576: true; the input reads as it did. -/
def fnExactCountAfterUptoRow : OpenClaim := { program := "ytglleimmmfnhcaa", sum := "777f1ca1d82f31cc22431bb53d0e00759cab3369dc81ea9bfcc0184c5ba17ddd", func := "loop.example/g03209/laws.FnExactCountAfter", spec := "fnExactCountAfter", inPlace := ["internal/bytealg.CountString", "internal/bytealg.IndexByteString", "internal/bytealg.IndexString"], named := ["internal/bytealg.MaxLen"], apart := false, narrowed := true }
def FnExactCountAfterUptoSaid : Prop := fnExactCountAfterUptoRow.holds Try.pinned (OpenSpec.upto fnExactCountAfterSpec)

/-- 'laws.FnExactLengthAfter', WHERE WHAT IT READS IS OF BULK AT MOST 1048576: true; the input reads as it did. -/
def fnExactLengthAfterUptoRow : OpenClaim := { program := "ytglleimmmfnhcaa", sum := "777f1ca1d82f31cc22431bb53d0e00759cab3369dc81ea9bfcc0184c5ba17ddd", func := "loop.example/g03209/laws.FnExactLengthAfter", spec := "fnExactLengthAfter", inPlace := ["internal/bytealg.CountString", "internal/bytealg.IndexByteString", "internal/bytealg.IndexString"], named := ["internal/bytealg.MaxLen"], apart := false, narrowed := true }
def FnExactLengthAfterUptoSaid : Prop := fnExactLengthAfterUptoRow.holds Try.pinned (OpenSpec.upto fnExactLengthAfterSpec)

/-- 'laws.FnExactGraphOf', WHERE WHAT IT READS IS OF BULK AT MOST 1048576: true; the input reads as it did. -/
def fnExactGraphOfUptoRow : OpenClaim := { program := "ytglleimmmfnhcaa", sum := "777f1ca1d82f31cc22431bb53d0e00759cab3369dc81ea9bfcc0184c5ba17ddd", func := "loop.example/g03209/laws.FnExactGraphOf", spec := "fnExactGraphOf", recurses := true, apart := false, narrowed := true }
def FnExactGraphOfUptoSaid : Prop := fnExactGraphOfUptoRow.holds Try.pinned (OpenSpec.upto fnExactGraphOfSpec)

/-- 'laws.FnExactFixedFactors', WHERE WHAT IT READS IS OF BULK AT MOST 1048576: true; the input reads as it did. -/
def fnExactFixedFactorsUptoRow : OpenClaim := { program := "ytglleimmmfnhcaa", sum := "777f1ca1d82f31cc22431bb53d0e00759cab3369dc81ea9bfcc0184c5ba17ddd", func := "loop.example/g03209/laws.FnExactFixedFactors", spec := "fnExactFixedFactors", recurses := true, apart := false, narrowed := true }
def FnExactFixedFactorsUptoSaid : Prop := fnExactFixedFactorsUptoRow.holds Try.pinned (OpenSpec.upto fnExactFixedFactorsSpec)

end Rows
end Go.Proofs.Ytglleimmmfnhcaa
