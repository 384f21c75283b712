/-
  No cell of these rows narrows 'for every input' (looked for: loops, veiled, ifaces, maps, wideKeys, modest, calm, conditions, laid).
  DERIVED. THE GIVEN ROWS OF THIS SEAT. 12 by the template 'for every input the law returns true; each argument reads behind the call as it read before'; 0 by the template 'total and deterministic' (their statements: YtbhpgghikjhjhaaTotals.lean).
  GIVEN WITH THE SEED: the statements are not yours to turn. If you find one false, say at which input.
  Laid BY PROGRAM, IN A SANDBOX (cutbox-rows.mjs): the forced cells as the released guide's own fill.sh prints them over the translation 77ce3db0b6358ad8… (all of the seat's roots in one cut). By AI agents, Wed Nov 11 2026. No macro, syntax, notation, axiom, sorry.
-/
import Derived.Test.YtbhpgghikjhjhaaChecked
import GoSem.Claim
import GoSem.ClaimJoined
import GoSem.ClaimMapViews
import Derived.JoinedTies
import Derived.KernelRfl
namespace Go.Proofs.Ytbhpgghikjhjhaa
/- THE CELL 'sum', in the pinned program and in every row, IS THE sha256 OF THE DUMP (.gsa) THAT YtbhpgghikjhjhaaProg.lean LOADS. Nothing in Lean hashes anything: it is a label: what it is worth is what the hold of that sum in a sandbox is worth. -/
noncomputable def Try.pinned : Pinned := { name := "ytbhpgghikjhjhaa", sum := "77ce3db0b6358ad8b03dbbad8cd8a8f61fb855d7ce5450b36d5213292cf5e04c", checked := Try.checked }
namespace Rows
def none {H : Type} : Left H := { results := [], args := [] }

/-- 'laws.FnExactSubstOk': WHATEVER THE INPUT: true; the input reads as it did. -/
def fnExactSubstOkSpec : ChangeSpec := { name := "fnExactSubstOk", fn := fun _ => fun
  | [d] => { results := [.lit (.bool true)], args := [d] }
  | _ => none }
def fnExactSubstOkRow : OpenClaim := { program := "ytbhpgghikjhjhaa", sum := "77ce3db0b6358ad8b03dbbad8cd8a8f61fb855d7ce5450b36d5213292cf5e04c", func := "loop.example/g03209/laws.FnExactSubstOk", spec := "fnExactSubstOk", apart := false }
def FnExactSubstOkSaid : Prop := fnExactSubstOkRow.holds Try.pinned (OpenSpec.ofChange fnExactSubstOkSpec)

/-- ITS FALSE NEIGHBOUR: 'it returns false'. Refute it at one input. -/
def fnExactSubstOkWrong : ChangeSpec := { name := "fnExactSubstOk", fn := fun _ => fun
  | [d] => { results := [.lit (.bool false)], args := [d] }
  | _ => none }
def FnExactSubstOkWrongFalsely : Prop := fnExactSubstOkRow.holds Try.pinned (OpenSpec.ofChange fnExactSubstOkWrong)

/-- 'laws.FnExactIsUniform': WHATEVER THE INPUT: true; the input reads as it did. -/
def fnExactIsUniformSpec : ChangeSpec := { name := "fnExactIsUniform", fn := fun _ => fun
  | [d] => { results := [.lit (.bool true)], args := [d] }
  | _ => none }
def fnExactIsUniformRow : OpenClaim := { program := "ytbhpgghikjhjhaa", sum := "77ce3db0b6358ad8b03dbbad8cd8a8f61fb855d7ce5450b36d5213292cf5e04c", func := "loop.example/g03209/laws.FnExactIsUniform", spec := "fnExactIsUniform", apart := false }
def FnExactIsUniformSaid : Prop := fnExactIsUniformRow.holds Try.pinned (OpenSpec.ofChange fnExactIsUniformSpec)

/-- ITS FALSE NEIGHBOUR: 'it returns false'. Refute it at one input. -/
def fnExactIsUniformWrong : ChangeSpec := { name := "fnExactIsUniform", fn := fun _ => fun
  | [d] => { results := [.lit (.bool false)], args := [d] }
  | _ => none }
def FnExactIsUniformWrongFalsely : Prop := fnExactIsUniformRow.holds Try.pinned (OpenSpec.ofChange fnExactIsUniformWrong)

/-- 'laws.FnExactIsCode': WHATEVER THE INPUT: true; the input reads as it did. -/
def fnExactIsCodeSpec : ChangeSpec := { name := "fnExactIsCode", fn := fun _ => fun
  | [d] => { results := [.lit (.bool true)], args := [d] }
  | _ => none }
def fnExactIsCodeRow : OpenClaim := { program := "ytbhpgghikjhjhaa", sum := "77ce3db0b6358ad8b03dbbad8cd8a8f61fb855d7ce5450b36d5213292cf5e04c", func := "loop.example/g03209/laws.FnExactIsCode", spec := "fnExactIsCode", apart := false }
def FnExactIsCodeSaid : Prop := fnExactIsCodeRow.holds Try.pinned (OpenSpec.ofChange fnExactIsCodeSpec)

/-- ITS FALSE NEIGHBOUR: 'it returns false'. Refute it at one input. -/
def fnExactIsCodeWrong : ChangeSpec := { name := "fnExactIsCode", fn := fun _ => fun
  | [d] => { results := [.lit (.bool false)], args := [d] }
  | _ => none }
def FnExactIsCodeWrongFalsely : Prop := fnExactIsCodeRow.holds Try.pinned (OpenSpec.ofChange fnExactIsCodeWrong)

/-- 'laws.FnExactPowerNeeded': WHATEVER THE INPUT: true; the input reads as it did. -/
def fnExactPowerNeededSpec : ChangeSpec := { name := "fnExactPowerNeeded", fn := fun _ => fun
  | [d] => { results := [.lit (.bool true)], args := [d] }
  | _ => none }
def fnExactPowerNeededRow : OpenClaim := { program := "ytbhpgghikjhjhaa", sum := "77ce3db0b6358ad8b03dbbad8cd8a8f61fb855d7ce5450b36d5213292cf5e04c", func := "loop.example/g03209/laws.FnExactPowerNeeded", spec := "fnExactPowerNeeded", apart := false }
def FnExactPowerNeededSaid : Prop := fnExactPowerNeededRow.holds Try.pinned (OpenSpec.ofChange fnExactPowerNeededSpec)

/-- ITS FALSE NEIGHBOUR: 'it returns false'. Refute it at one input. -/
def fnExactPowerNeededWrong : ChangeSpec := { name := "fnExactPowerNeeded", fn := fun _ => fun
  | [d] => { results := [.lit (.bool false)], args := [d] }
  | _ => none }
def FnExactPowerNeededWrongFalsely : Prop := fnExactPowerNeededRow.holds Try.pinned (OpenSpec.ofChange fnExactPowerNeededWrong)

/-- 'laws.FnExactGrowingLetters': WHATEVER THE INPUT: true; the input reads as it did. -/
def fnExactGrowingLettersSpec : ChangeSpec := { name := "fnExactGrowingLetters", fn := fun _ => fun
  | [d] => { results := [.lit (.bool true)], args := [d] }
  | _ => none }
def fnExactGrowingLettersRow : OpenClaim := { program := "ytbhpgghikjhjhaa", sum := "77ce3db0b6358ad8b03dbbad8cd8a8f61fb855d7ce5450b36d5213292cf5e04c", func := "loop.example/g03209/laws.FnExactGrowingLetters", spec := "fnExactGrowingLetters", apart := false }
def FnExactGrowingLettersSaid : Prop := fnExactGrowingLettersRow.holds Try.pinned (OpenSpec.ofChange fnExactGrowingLettersSpec)

/-- ITS FALSE NEIGHBOUR: 'it returns false'. Refute it at one input. -/
def fnExactGrowingLettersWrong : ChangeSpec := { name := "fnExactGrowingLetters", fn := fun _ => fun
  | [d] => { results := [.lit (.bool false)], args := [d] }
  | _ => none }
def FnExactGrowingLettersWrongFalsely : Prop := fnExactGrowingLettersRow.holds Try.pinned (OpenSpec.ofChange fnExactGrowingLettersWrong)

/-- 'laws.FnExactApplySubst': WHATEVER THE INPUT: true; the input reads as it did. -/
def fnExactApplySubstSpec : ChangeSpec := { name := "fnExactApplySubst", fn := fun _ => fun
  | [d1, d2] => { results := [.lit (.bool true)], args := [d1, d2] }
  | _ => none }
def fnExactApplySubstRow : OpenClaim := { program := "ytbhpgghikjhjhaa", sum := "77ce3db0b6358ad8b03dbbad8cd8a8f61fb855d7ce5450b36d5213292cf5e04c", func := "loop.example/g03209/laws.FnExactApplySubst", spec := "fnExactApplySubst", apart := false }
def FnExactApplySubstSaid : Prop := fnExactApplySubstRow.holds Try.pinned (OpenSpec.ofChange fnExactApplySubstSpec)

/-- ITS FALSE NEIGHBOUR: 'it returns false'. Refute it at one input. -/
def fnExactApplySubstWrong : ChangeSpec := { name := "fnExactApplySubst", fn := fun _ => fun
  | [d1, d2] => { results := [.lit (.bool false)], args := [d1, d2] }
  | _ => none }
def FnExactApplySubstWrongFalsely : Prop := fnExactApplySubstRow.holds Try.pinned (OpenSpec.ofChange fnExactApplySubstWrong)

/-- 'laws.FnExactIterateSubst': WHATEVER THE INPUT: true; the input reads as it did. -/
def fnExactIterateSubstSpec : ChangeSpec := { name := "fnExactIterateSubst", fn := fun _ => fun
  | [d1, d2, d3] => { results := [.lit (.bool true)], args := [d1, d2, d3] }
  | _ => none }
def fnExactIterateSubstRow : OpenClaim := { program := "ytbhpgghikjhjhaa", sum := "77ce3db0b6358ad8b03dbbad8cd8a8f61fb855d7ce5450b36d5213292cf5e04c", func := "loop.example/g03209/laws.FnExactIterateSubst", spec := "fnExactIterateSubst", apart := false }
def FnExactIterateSubstSaid : Prop := fnExactIterateSubstRow.holds Try.pinned (OpenSpec.ofChange fnExactIterateSubstSpec)

/-- ITS FALSE NEIGHBOUR: 'it returns false'. Refute it at one input. -/
def fnExactIterateSubstWrong : ChangeSpec := { name := "fnExactIterateSubst", fn := fun _ => fun
  | [d1, d2, d3] => { results := [.lit (.bool false)], args := [d1, d2, d3] }
  | _ => none }
def FnExactIterateSubstWrongFalsely : Prop := fnExactIterateSubstRow.holds Try.pinned (OpenSpec.ofChange fnExactIterateSubstWrong)

/-- 'laws.FnExactOrbitOfFirst': WHATEVER THE INPUT: true; the input reads as it did. -/
def fnExactOrbitOfFirstSpec : ChangeSpec := { name := "fnExactOrbitOfFirst", fn := fun _ => fun
  | [d1, d2] => { results := [.lit (.bool true)], args := [d1, d2] }
  | _ => none }
def fnExactOrbitOfFirstRow : OpenClaim := { program := "ytbhpgghikjhjhaa", sum := "77ce3db0b6358ad8b03dbbad8cd8a8f61fb855d7ce5450b36d5213292cf5e04c", func := "loop.example/g03209/laws.FnExactOrbitOfFirst", spec := "fnExactOrbitOfFirst", apart := false }
def FnExactOrbitOfFirstSaid : Prop := fnExactOrbitOfFirstRow.holds Try.pinned (OpenSpec.ofChange fnExactOrbitOfFirstSpec)

/-- ITS FALSE NEIGHBOUR: 'it returns false'. Refute it at one input. -/
def fnExactOrbitOfFirstWrong : ChangeSpec := { name := "fnExactOrbitOfFirst", fn := fun _ => fun
  | [d1, d2] => { results := [.lit (.bool false)], args := [d1, d2] }
  | _ => none }
def FnExactOrbitOfFirstWrongFalsely : Prop := fnExactOrbitOfFirstRow.holds Try.pinned (OpenSpec.ofChange fnExactOrbitOfFirstWrong)

/-- 'laws.FnExactFixedPoint': WHATEVER THE INPUT: true; the input reads as it did. -/
def fnExactFixedPointSpec : ChangeSpec := { name := "fnExactFixedPoint", fn := fun _ => fun
  | [d1, d2, d3] => { results := [.lit (.bool true)], args := [d1, d2, d3] }
  | _ => none }
def fnExactFixedPointRow : OpenClaim := { program := "ytbhpgghikjhjhaa", sum := "77ce3db0b6358ad8b03dbbad8cd8a8f61fb855d7ce5450b36d5213292cf5e04c", func := "loop.example/g03209/laws.FnExactFixedPoint", spec := "fnExactFixedPoint", apart := false }
def FnExactFixedPointSaid : Prop := fnExactFixedPointRow.holds Try.pinned (OpenSpec.ofChange fnExactFixedPointSpec)

/-- ITS FALSE NEIGHBOUR: 'it returns false'. Refute it at one input. -/
def fnExactFixedPointWrong : ChangeSpec := { name := "fnExactFixedPoint", fn := fun _ => fun
  | [d1, d2, d3] => { results := [.lit (.bool false)], args := [d1, d2, d3] }
  | _ => none }
def FnExactFixedPointWrongFalsely : Prop := fnExactFixedPointRow.holds Try.pinned (OpenSpec.ofChange fnExactFixedPointWrong)

/-- 'laws.FnExactIsFixedStart': WHATEVER THE INPUT: true; the input reads as it did. -/
def fnExactIsFixedStartSpec : ChangeSpec := { name := "fnExactIsFixedStart", fn := fun _ => fun
  | [d1, d2] => { results := [.lit (.bool true)], args := [d1, d2] }
  | _ => none }
def fnExactIsFixedStartRow : OpenClaim := { program := "ytbhpgghikjhjhaa", sum := "77ce3db0b6358ad8b03dbbad8cd8a8f61fb855d7ce5450b36d5213292cf5e04c", func := "loop.example/g03209/laws.FnExactIsFixedStart", spec := "fnExactIsFixedStart", apart := false }
def FnExactIsFixedStartSaid : Prop := fnExactIsFixedStartRow.holds Try.pinned (OpenSpec.ofChange fnExactIsFixedStartSpec)

/-- ITS FALSE NEIGHBOUR: 'it returns false'. Refute it at one input. -/
def fnExactIsFixedStartWrong : ChangeSpec := { name := "fnExactIsFixedStart", fn := fun _ => fun
  | [d1, d2] => { results := [.lit (.bool false)], args := [d1, d2] }
  | _ => none }
def FnExactIsFixedStartWrongFalsely : Prop := fnExactIsFixedStartRow.holds Try.pinned (OpenSpec.ofChange fnExactIsFixedStartWrong)

/-- 'laws.FnExactLetterAt': WHATEVER THE INPUT: true; the input reads as it did. -/
def fnExactLetterAtSpec : ChangeSpec := { name := "fnExactLetterAt", fn := fun _ => fun
  | [d1, d2, d3] => { results := [.lit (.bool true)], args := [d1, d2, d3] }
  | _ => none }
def fnExactLetterAtRow : OpenClaim := { program := "ytbhpgghikjhjhaa", sum := "77ce3db0b6358ad8b03dbbad8cd8a8f61fb855d7ce5450b36d5213292cf5e04c", func := "loop.example/g03209/laws.FnExactLetterAt", spec := "fnExactLetterAt", apart := false }
def FnExactLetterAtSaid : Prop := fnExactLetterAtRow.holds Try.pinned (OpenSpec.ofChange fnExactLetterAtSpec)

/-- ITS FALSE NEIGHBOUR: 'it returns false'. Refute it at one input. -/
def fnExactLetterAtWrong : ChangeSpec := { name := "fnExactLetterAt", fn := fun _ => fun
  | [d1, d2, d3] => { results := [.lit (.bool false)], args := [d1, d2, d3] }
  | _ => none }
def FnExactLetterAtWrongFalsely : Prop := fnExactLetterAtRow.holds Try.pinned (OpenSpec.ofChange fnExactLetterAtWrong)

/-- 'laws.FnExactReachedBy': WHATEVER THE INPUT: true; the input reads as it did. -/
def fnExactReachedBySpec : ChangeSpec := { name := "fnExactReachedBy", fn := fun _ => fun
  | [d1, d2] => { results := [.lit (.bool true)], args := [d1, d2] }
  | _ => none }
def fnExactReachedByRow : OpenClaim := { program := "ytbhpgghikjhjhaa", sum := "77ce3db0b6358ad8b03dbbad8cd8a8f61fb855d7ce5450b36d5213292cf5e04c", func := "loop.example/g03209/laws.FnExactReachedBy", spec := "fnExactReachedBy", apart := false }
def FnExactReachedBySaid : Prop := fnExactReachedByRow.holds Try.pinned (OpenSpec.ofChange fnExactReachedBySpec)

/-- ITS FALSE NEIGHBOUR: 'it returns false'. Refute it at one input. -/
def fnExactReachedByWrong : ChangeSpec := { name := "fnExactReachedBy", fn := fun _ => fun
  | [d1, d2] => { results := [.lit (.bool false)], args := [d1, d2] }
  | _ => none }
def FnExactReachedByWrongFalsely : Prop := fnExactReachedByRow.holds Try.pinned (OpenSpec.ofChange fnExactReachedByWrong)

/- THE SECOND FORM. 'bulk': how many values and letters a reading holds, each counted each time it is reached (what is shared counts as often as it is met; a slice's spare places count too). A statement '..UptoSaid' is the law's where the arguments, and the package variables that the reading takes, are together of bulk at most 1048576: NARROWER than '..Said'. Prove '..Said' where nothing that the law and all that it calls make is longer than what came in: it says more and counts as full. Else prove '..UptoSaid'. A law counts once. -/
mutual
def uptoBulk {H : Type} : DataW H → Nat
  | .lit (.string bytes) => bytes.length + 1
  | .lit _ => 1
  | .nil => 1
  | .ptr d => uptoBulk d + 1
  | .slice elems spare => uptoBulkAll elems + uptoBulkAll spare + 1
  | .agg parts => uptoBulkAll parts + 1
  | .iface _ d => uptoBulk d + 1
  | .map entries => uptoBulkEntries entries + 1
  | .held _ => 1
def uptoBulkAll {H : Type} : List (DataW H) → Nat
  | [] => 0
  | d :: r => uptoBulk d + uptoBulkAll r
def uptoBulkEntries {H : Type} : List (Lit × DataW H) → Nat
  | [] => 0
  | x :: r => uptoBulkEntry x + uptoBulkEntries r
def uptoBulkEntry {H : Type} : Lit × DataW H → Nat
  | (.string bytes, d) => bytes.length + uptoBulk d + 1
  | (_, d) => uptoBulk d + 1
 end
def uptoSmall : (H : Type) → List (DataW H) → Bool := fun _ ds => decide (uptoBulkAll ds ≤ 1048576)
def OpenSpec.upto (s : _root_.Go.ChangeSpec) : _root_.Go.OpenSpec := { _root_.Go.OpenSpec.ofChange s with cond := some uptoSmall }

/-- 'laws.FnExactSubstOk', WHERE WHAT IT READS IS OF BULK AT MOST 1048576: true; the input reads as it did. -/
def fnExactSubstOkUptoRow : OpenClaim := { program := "ytbhpgghikjhjhaa", sum := "77ce3db0b6358ad8b03dbbad8cd8a8f61fb855d7ce5450b36d5213292cf5e04c", func := "loop.example/g03209/laws.FnExactSubstOk", spec := "fnExactSubstOk", apart := false, narrowed := true }
def FnExactSubstOkUptoSaid : Prop := fnExactSubstOkUptoRow.holds Try.pinned (OpenSpec.upto fnExactSubstOkSpec)

/-- 'laws.FnExactIsUniform', WHERE WHAT IT READS IS OF BULK AT MOST 1048576: true; the input reads as it did. -/
def fnExactIsUniformUptoRow : OpenClaim := { program := "ytbhpgghikjhjhaa", sum := "77ce3db0b6358ad8b03dbbad8cd8a8f61fb855d7ce5450b36d5213292cf5e04c", func := "loop.example/g03209/laws.FnExactIsUniform", spec := "fnExactIsUniform", apart := false, narrowed := true }
def FnExactIsUniformUptoSaid : Prop := fnExactIsUniformUptoRow.holds Try.pinned (OpenSpec.upto fnExactIsUniformSpec)

/-- 'laws.FnExactIsCode', WHERE WHAT IT READS IS OF BULK AT MOST 1048576: true; the input reads as it did. -/
def fnExactIsCodeUptoRow : OpenClaim := { program := "ytbhpgghikjhjhaa", sum := "77ce3db0b6358ad8b03dbbad8cd8a8f61fb855d7ce5450b36d5213292cf5e04c", func := "loop.example/g03209/laws.FnExactIsCode", spec := "fnExactIsCode", apart := false, narrowed := true }
def FnExactIsCodeUptoSaid : Prop := fnExactIsCodeUptoRow.holds Try.pinned (OpenSpec.upto fnExactIsCodeSpec)

/-- 'laws.FnExactPowerNeeded', WHERE WHAT IT READS IS OF BULK AT MOST 1048576: true; the input reads as it did. -/
def fnExactPowerNeededUptoRow : OpenClaim := { program := "ytbhpgghikjhjhaa", sum := "77ce3db0b6358ad8b03dbbad8cd8a8f61fb855d7ce5450b36d5213292cf5e04c", func := "loop.example/g03209/laws.FnExactPowerNeeded", spec := "fnExactPowerNeeded", apart := false, narrowed := true }
def FnExactPowerNeededUptoSaid : Prop := fnExactPowerNeededUptoRow.holds Try.pinned (OpenSpec.upto fnExactPowerNeededSpec)

/-- 'laws.FnExactGrowingLetters', WHERE WHAT IT READS IS OF BULK AT MOST 1048576: true; the input reads as it did. -/
def fnExactGrowingLettersUptoRow : OpenClaim := { program := "ytbhpgghikjhjhaa", sum := "77ce3db0b6358ad8b03dbbad8cd8a8f61fb855d7ce5450b36d5213292cf5e04c", func := "loop.example/g03209/laws.FnExactGrowingLetters", spec := "fnExactGrowingLetters", apart := false, narrowed := true }
def FnExactGrowingLettersUptoSaid : Prop := fnExactGrowingLettersUptoRow.holds Try.pinned (OpenSpec.upto fnExactGrowingLettersSpec)

/-- 'laws.FnExactApplySubst', WHERE WHAT IT READS IS OF BULK AT MOST 1048576: true; the input reads as it did. -/
def fnExactApplySubstUptoRow : OpenClaim := { program := "ytbhpgghikjhjhaa", sum := "77ce3db0b6358ad8b03dbbad8cd8a8f61fb855d7ce5450b36d5213292cf5e04c", func := "loop.example/g03209/laws.FnExactApplySubst", spec := "fnExactApplySubst", apart := false, narrowed := true }
def FnExactApplySubstUptoSaid : Prop := fnExactApplySubstUptoRow.holds Try.pinned (OpenSpec.upto fnExactApplySubstSpec)

/-- 'laws.FnExactIterateSubst', WHERE WHAT IT READS IS OF BULK AT MOST 1048576: true; the input reads as it did. -/
def fnExactIterateSubstUptoRow : OpenClaim := { program := "ytbhpgghikjhjhaa", sum := "77ce3db0b6358ad8b03dbbad8cd8a8f61fb855d7ce5450b36d5213292cf5e04c", func := "loop.example/g03209/laws.FnExactIterateSubst", spec := "fnExactIterateSubst", apart := false, narrowed := true }
def FnExactIterateSubstUptoSaid : Prop := fnExactIterateSubstUptoRow.holds Try.pinned (OpenSpec.upto fnExactIterateSubstSpec)

/-- 'laws.FnExactOrbitOfFirst', WHERE WHAT IT READS IS OF BULK AT MOST 1048576: true; the input reads as it did. -/
def fnExactOrbitOfFirstUptoRow : OpenClaim := { program := "ytbhpgghikjhjhaa", sum := "77ce3db0b6358ad8b03dbbad8cd8a8f61fb855d7ce5450b36d5213292cf5e04c", func := "loop.example/g03209/laws.FnExactOrbitOfFirst", spec := "fnExactOrbitOfFirst", apart := false, narrowed := true }
def FnExactOrbitOfFirstUptoSaid : Prop := fnExactOrbitOfFirstUptoRow.holds Try.pinned (OpenSpec.upto fnExactOrbitOfFirstSpec)

/-- 'laws.FnExactFixedPoint', WHERE WHAT IT READS IS OF BULK AT MOST 1048576: true; the input reads as it did. -/
def fnExactFixedPointUptoRow : OpenClaim := { program := "ytbhpgghikjhjhaa", sum := "77ce3db0b6358ad8b03dbbad8cd8a8f61fb855d7ce5450b36d5213292cf5e04c", func := "loop.example/g03209/laws.FnExactFixedPoint", spec := "fnExactFixedPoint", apart := false, narrowed := true }
def FnExactFixedPointUptoSaid : Prop := fnExactFixedPointUptoRow.holds Try.pinned (OpenSpec.upto fnExactFixedPointSpec)

/-- 'laws.FnExactIsFixedStart', WHERE WHAT IT READS IS OF BULK AT MOST 1048576: true; the input reads as it did. -/
def fnExactIsFixedStartUptoRow : OpenClaim := { program := "ytbhpgghikjhjhaa", sum := "77ce3db0b6358ad8b03dbbad8cd8a8f61fb855d7ce5450b36d5213292cf5e04c", func := "loop.example/g03209/laws.FnExactIsFixedStart", spec := "fnExactIsFixedStart", apart := false, narrowed := true }
def FnExactIsFixedStartUptoSaid : Prop := fnExactIsFixedStartUptoRow.holds Try.pinned (OpenSpec.upto fnExactIsFixedStartSpec)

/-- 'laws.FnExactLetterAt', WHERE WHAT IT READS IS OF BULK AT MOST 1048576: true; the input reads as it did. -/
def fnExactLetterAtUptoRow : OpenClaim := { program := "ytbhpgghikjhjhaa", sum := "77ce3db0b6358ad8b03dbbad8cd8a8f61fb855d7ce5450b36d5213292cf5e04c", func := "loop.example/g03209/laws.FnExactLetterAt", spec := "fnExactLetterAt", apart := false, narrowed := true }
def FnExactLetterAtUptoSaid : Prop := fnExactLetterAtUptoRow.holds Try.pinned (OpenSpec.upto fnExactLetterAtSpec)

/-- 'laws.FnExactReachedBy', WHERE WHAT IT READS IS OF BULK AT MOST 1048576: true; the input reads as it did. -/
def fnExactReachedByUptoRow : OpenClaim := { program := "ytbhpgghikjhjhaa", sum := "77ce3db0b6358ad8b03dbbad8cd8a8f61fb855d7ce5450b36d5213292cf5e04c", func := "loop.example/g03209/laws.FnExactReachedBy", spec := "fnExactReachedBy", apart := false, narrowed := true }
def FnExactReachedByUptoSaid : Prop := fnExactReachedByUptoRow.holds Try.pinned (OpenSpec.upto fnExactReachedBySpec)

end Rows
end Go.Proofs.Ytbhpgghikjhjhaa
