/-
  No cell of these rows narrows 'for every input' (looked for: loops, veiled, ifaces, maps, wideKeys, modest, calm, conditions, laid).
  DERIVED. THE GIVEN ROWS OF THIS SEAT. 10 by the template 'for every input the law returns true; each argument reads behind the call as it read before'; 0 by the template 'total and deterministic' (their statements: YtnnkhjjecmldfaaTotals.lean).
  GIVEN WITH THE SEED: the statements are not yours to turn. If you find one false, say at which input.
  Laid BY PROGRAM, IN A SANDBOX (cutbox-rows.mjs): the forced cells as the released guide's own fill.sh prints them over the translation 573be41e67d5f6b1… (all of the seat's roots in one cut). By AI agents, Wed Nov 11 2026. No macro, syntax, notation, axiom, sorry.
-/
import Derived.Test.YtnnkhjjecmldfaaChecked
import GoSem.Claim
import GoSem.ClaimJoined
import GoSem.ClaimMapViews
import Derived.JoinedTies
import Derived.KernelRfl
namespace Go.Proofs.Ytnnkhjjecmldfaa
/- THE CELL 'sum', in the pinned program and in every row, IS THE sha256 OF THE DUMP (.gsa) THAT YtnnkhjjecmldfaaProg.lean LOADS. Nothing in Lean hashes anything: it is a label: what it is worth is what the hold of that sum in a sandbox is worth. -/
noncomputable def Try.pinned : Pinned := { name := "ytnnkhjjecmldfaa", sum := "573be41e67d5f6b13449b007693dc7226c949bbc73794beb80b45d6955826157", checked := Try.checked }
namespace Rows
def none {H : Type} : Left H := { results := [], args := [] }

/-- 'laws.FnExactTurnSubst': WHATEVER THE INPUT: true; the input reads as it did. -/
def fnExactTurnSubstSpec : ChangeSpec := { name := "fnExactTurnSubst", fn := fun _ => fun
  | [d] => { results := [.lit (.bool true)], args := [d] }
  | _ => none }
def fnExactTurnSubstRow : OpenClaim := { program := "ytnnkhjjecmldfaa", sum := "573be41e67d5f6b13449b007693dc7226c949bbc73794beb80b45d6955826157", func := "loop.example/g03209/laws.FnExactTurnSubst", spec := "fnExactTurnSubst", apart := false }
def FnExactTurnSubstSaid : Prop := fnExactTurnSubstRow.holds Try.pinned (OpenSpec.ofChange fnExactTurnSubstSpec)

/-- ITS FALSE NEIGHBOUR: 'it returns false'. Refute it at one input. -/
def fnExactTurnSubstWrong : ChangeSpec := { name := "fnExactTurnSubst", fn := fun _ => fun
  | [d] => { results := [.lit (.bool false)], args := [d] }
  | _ => none }
def FnExactTurnSubstWrongFalsely : Prop := fnExactTurnSubstRow.holds Try.pinned (OpenSpec.ofChange fnExactTurnSubstWrong)

/-- 'laws.FnExactComposeSubst': WHATEVER THE INPUT: true; the input reads as it did. -/
def fnExactComposeSubstSpec : ChangeSpec := { name := "fnExactComposeSubst", fn := fun _ => fun
  | [d1, d2] => { results := [.lit (.bool true)], args := [d1, d2] }
  | _ => none }
def fnExactComposeSubstRow : OpenClaim := { program := "ytnnkhjjecmldfaa", sum := "573be41e67d5f6b13449b007693dc7226c949bbc73794beb80b45d6955826157", func := "loop.example/g03209/laws.FnExactComposeSubst", spec := "fnExactComposeSubst", apart := false }
def FnExactComposeSubstSaid : Prop := fnExactComposeSubstRow.holds Try.pinned (OpenSpec.ofChange fnExactComposeSubstSpec)

/-- ITS FALSE NEIGHBOUR: 'it returns false'. Refute it at one input. -/
def fnExactComposeSubstWrong : ChangeSpec := { name := "fnExactComposeSubst", fn := fun _ => fun
  | [d1, d2] => { results := [.lit (.bool false)], args := [d1, d2] }
  | _ => none }
def FnExactComposeSubstWrongFalsely : Prop := fnExactComposeSubstRow.holds Try.pinned (OpenSpec.ofChange fnExactComposeSubstWrong)

/-- 'laws.FnExactFormatSubst': WHATEVER THE INPUT: true; the input reads as it did. -/
def fnExactFormatSubstSpec : ChangeSpec := { name := "fnExactFormatSubst", fn := fun _ => fun
  | [d] => { results := [.lit (.bool true)], args := [d] }
  | _ => none }
def fnExactFormatSubstRow : OpenClaim := { program := "ytnnkhjjecmldfaa", sum := "573be41e67d5f6b13449b007693dc7226c949bbc73794beb80b45d6955826157", func := "loop.example/g03209/laws.FnExactFormatSubst", spec := "fnExactFormatSubst", inPlace := ["internal/abi.NoEscape", "internal/bytealg.MakeNoZero"], apart := false }
def FnExactFormatSubstSaid : Prop := fnExactFormatSubstRow.holds Try.pinned (OpenSpec.ofChange fnExactFormatSubstSpec)

/-- ITS FALSE NEIGHBOUR: 'it returns false'. Refute it at one input. -/
def fnExactFormatSubstWrong : ChangeSpec := { name := "fnExactFormatSubst", fn := fun _ => fun
  | [d] => { results := [.lit (.bool false)], args := [d] }
  | _ => none }
def FnExactFormatSubstWrongFalsely : Prop := fnExactFormatSubstRow.holds Try.pinned (OpenSpec.ofChange fnExactFormatSubstWrong)

/-- 'laws.FnExactJoin': WHATEVER THE INPUT: true; the input reads as it did. -/
def fnExactJoinSpec : ChangeSpec := { name := "fnExactJoin", fn := fun _ => fun
  | [d1, d2] => { results := [.lit (.bool true)], args := [d1, d2] }
  | _ => none }
def fnExactJoinRow : OpenClaim := { program := "ytnnkhjjecmldfaa", sum := "573be41e67d5f6b13449b007693dc7226c949bbc73794beb80b45d6955826157", func := "loop.example/g03209/laws.FnExactJoin", spec := "fnExactJoin", inPlace := ["internal/abi.NoEscape", "internal/bytealg.MakeNoZero"], apart := false }
def FnExactJoinSaid : Prop := fnExactJoinRow.holds Try.pinned (OpenSpec.ofChange fnExactJoinSpec)

/-- ITS FALSE NEIGHBOUR: 'it returns false'. Refute it at one input. -/
def fnExactJoinWrong : ChangeSpec := { name := "fnExactJoin", fn := fun _ => fun
  | [d1, d2] => { results := [.lit (.bool false)], args := [d1, d2] }
  | _ => none }
def FnExactJoinWrongFalsely : Prop := fnExactJoinRow.holds Try.pinned (OpenSpec.ofChange fnExactJoinWrong)

/-- 'laws.FnExactMatrixOf': WHATEVER THE INPUT: true; the input reads as it did. -/
def fnExactMatrixOfSpec : ChangeSpec := { name := "fnExactMatrixOf", fn := fun _ => fun
  | [d] => { results := [.lit (.bool true)], args := [d] }
  | _ => none }
def fnExactMatrixOfRow : OpenClaim := { program := "ytnnkhjjecmldfaa", sum := "573be41e67d5f6b13449b007693dc7226c949bbc73794beb80b45d6955826157", func := "loop.example/g03209/laws.FnExactMatrixOf", spec := "fnExactMatrixOf", inPlace := ["internal/bytealg.CountString", "internal/bytealg.IndexByteString", "internal/bytealg.IndexString"], named := ["internal/bytealg.MaxLen"], apart := false }
def FnExactMatrixOfSaid : Prop := fnExactMatrixOfRow.holds Try.pinned (OpenSpec.ofChange fnExactMatrixOfSpec)

/-- ITS FALSE NEIGHBOUR: 'it returns false'. Refute it at one input. -/
def fnExactMatrixOfWrong : ChangeSpec := { name := "fnExactMatrixOf", fn := fun _ => fun
  | [d] => { results := [.lit (.bool false)], args := [d] }
  | _ => none }
def FnExactMatrixOfWrongFalsely : Prop := fnExactMatrixOfRow.holds Try.pinned (OpenSpec.ofChange fnExactMatrixOfWrong)

/-- 'laws.FnExactCountAfter': WHATEVER THE INPUT: true; the input reads as it did. -/
def fnExactCountAfterSpec : ChangeSpec := { name := "fnExactCountAfter", fn := fun _ => fun
  | [d1, d2, d3] => { results := [.lit (.bool true)], args := [d1, d2, d3] }
  | _ => none }
def fnExactCountAfterRow : OpenClaim := { program := "ytnnkhjjecmldfaa", sum := "573be41e67d5f6b13449b007693dc7226c949bbc73794beb80b45d6955826157", func := "loop.example/g03209/laws.FnExactCountAfter", spec := "fnExactCountAfter", inPlace := ["internal/bytealg.CountString", "internal/bytealg.IndexByteString", "internal/bytealg.IndexString"], named := ["internal/bytealg.MaxLen"], apart := false }
def FnExactCountAfterSaid : Prop := fnExactCountAfterRow.holds Try.pinned (OpenSpec.ofChange fnExactCountAfterSpec)

/-- ITS FALSE NEIGHBOUR: 'it returns false'. Refute it at one input. -/
def fnExactCountAfterWrong : ChangeSpec := { name := "fnExactCountAfter", fn := fun _ => fun
  | [d1, d2, d3] => { results := [.lit (.bool false)], args := [d1, d2, d3] }
  | _ => none }
def FnExactCountAfterWrongFalsely : Prop := fnExactCountAfterRow.holds Try.pinned (OpenSpec.ofChange fnExactCountAfterWrong)

/-- 'laws.FnExactLengthAfter': WHATEVER THE INPUT: true; the input reads as it did. -/
def fnExactLengthAfterSpec : ChangeSpec := { name := "fnExactLengthAfter", fn := fun _ => fun
  | [d1, d2, d3] => { results := [.lit (.bool true)], args := [d1, d2, d3] }
  | _ => none }
def fnExactLengthAfterRow : OpenClaim := { program := "ytnnkhjjecmldfaa", sum := "573be41e67d5f6b13449b007693dc7226c949bbc73794beb80b45d6955826157", func := "loop.example/g03209/laws.FnExactLengthAfter", spec := "fnExactLengthAfter", inPlace := ["internal/bytealg.CountString", "internal/bytealg.IndexByteString", "internal/bytealg.IndexString"], named := ["internal/bytealg.MaxLen"], apart := false }
def FnExactLengthAfterSaid : Prop := fnExactLengthAfterRow.holds Try.pinned (OpenSpec.ofChange fnExactLengthAfterSpec)

/-- ITS FALSE NEIGHBOUR: 'it returns false'. Refute it at one input. -/
def fnExactLengthAfterWrong : ChangeSpec := { name := "fnExactLengthAfter", fn := fun _ => fun
  | [d1, d2, d3] => { results := [.lit (.bool false)], args := [d1, d2, d3] }
  | _ => none }
def FnExactLengthAfterWrongFalsely : Prop := fnExactLengthAfterRow.holds Try.pinned (OpenSpec.ofChange fnExactLengthAfterWrong)

/-- 'laws.FnExactIsPrimitiveSubst': WHATEVER THE INPUT: true; the input reads as it did. -/
def fnExactIsPrimitiveSubstSpec : ChangeSpec := { name := "fnExactIsPrimitiveSubst", fn := fun _ => fun
  | [d] => { results := [.lit (.bool true)], args := [d] }
  | _ => none }
def fnExactIsPrimitiveSubstRow : OpenClaim := { program := "ytnnkhjjecmldfaa", sum := "573be41e67d5f6b13449b007693dc7226c949bbc73794beb80b45d6955826157", func := "loop.example/g03209/laws.FnExactIsPrimitiveSubst", spec := "fnExactIsPrimitiveSubst", inPlace := ["internal/bytealg.CountString", "internal/bytealg.IndexByteString", "internal/bytealg.IndexString"], named := ["internal/bytealg.MaxLen"], apart := false }
def FnExactIsPrimitiveSubstSaid : Prop := fnExactIsPrimitiveSubstRow.holds Try.pinned (OpenSpec.ofChange fnExactIsPrimitiveSubstSpec)

/-- ITS FALSE NEIGHBOUR: 'it returns false'. Refute it at one input. -/
def fnExactIsPrimitiveSubstWrong : ChangeSpec := { name := "fnExactIsPrimitiveSubst", fn := fun _ => fun
  | [d] => { results := [.lit (.bool false)], args := [d] }
  | _ => none }
def FnExactIsPrimitiveSubstWrongFalsely : Prop := fnExactIsPrimitiveSubstRow.holds Try.pinned (OpenSpec.ofChange fnExactIsPrimitiveSubstWrong)

/-- 'laws.FnExactCountLetter': WHATEVER THE INPUT: true; the input reads as it did. -/
def fnExactCountLetterSpec : ChangeSpec := { name := "fnExactCountLetter", fn := fun _ => fun
  | [d1, d2] => { results := [.lit (.bool true)], args := [d1, d2] }
  | _ => none }
def fnExactCountLetterRow : OpenClaim := { program := "ytnnkhjjecmldfaa", sum := "573be41e67d5f6b13449b007693dc7226c949bbc73794beb80b45d6955826157", func := "loop.example/g03209/laws.FnExactCountLetter", spec := "fnExactCountLetter", inPlace := ["internal/bytealg.CountString", "internal/bytealg.IndexByteString", "internal/bytealg.IndexString"], named := ["internal/bytealg.MaxLen"], apart := false }
def FnExactCountLetterSaid : Prop := fnExactCountLetterRow.holds Try.pinned (OpenSpec.ofChange fnExactCountLetterSpec)

/-- ITS FALSE NEIGHBOUR: 'it returns false'. Refute it at one input. -/
def fnExactCountLetterWrong : ChangeSpec := { name := "fnExactCountLetter", fn := fun _ => fun
  | [d1, d2] => { results := [.lit (.bool false)], args := [d1, d2] }
  | _ => none }
def FnExactCountLetterWrongFalsely : Prop := fnExactCountLetterRow.holds Try.pinned (OpenSpec.ofChange fnExactCountLetterWrong)

/-- 'laws.FnExactSwapLetters': WHATEVER THE INPUT: true; the input reads as it did. -/
def fnExactSwapLettersSpec : ChangeSpec := { name := "fnExactSwapLetters", fn := fun _ => fun
  | [d1, d2] => { results := [.lit (.bool true)], args := [d1, d2] }
  | _ => none }
def fnExactSwapLettersRow : OpenClaim := { program := "ytnnkhjjecmldfaa", sum := "573be41e67d5f6b13449b007693dc7226c949bbc73794beb80b45d6955826157", func := "loop.example/g03209/laws.FnExactSwapLetters", spec := "fnExactSwapLetters", inPlace := ["internal/bytealg.CountString", "internal/bytealg.IndexByteString", "internal/bytealg.IndexString"], named := ["internal/bytealg.MaxLen"], apart := false }
def FnExactSwapLettersSaid : Prop := fnExactSwapLettersRow.holds Try.pinned (OpenSpec.ofChange fnExactSwapLettersSpec)

/-- ITS FALSE NEIGHBOUR: 'it returns false'. Refute it at one input. -/
def fnExactSwapLettersWrong : ChangeSpec := { name := "fnExactSwapLetters", fn := fun _ => fun
  | [d1, d2] => { results := [.lit (.bool false)], args := [d1, d2] }
  | _ => none }
def FnExactSwapLettersWrongFalsely : Prop := fnExactSwapLettersRow.holds Try.pinned (OpenSpec.ofChange fnExactSwapLettersWrong)

/- THE SECOND FORM. 'bulk': how many values and letters a reading holds, each counted each time it is reached (what is shared counts as often as it is met; a slice's spare places count too). A statement '..UptoSaid' is the law's where the arguments, and the package variables that the reading takes, are together of bulk at most 1048576: NARROWER than '..Said'. Prove '..Said' where nothing that the law and all that it calls make is longer than what came in: it says more and counts as full. Else prove '..UptoSaid'. A law counts once. -/
mutual
def uptoBulk {H : Type} : DataW H → Nat
  | .lit (.string bytes) => bytes.length + 1
  | .lit _ => 1
  | .nil => 1
  | .ptr d => uptoBulk d + 1
  | .slice elems spare => uptoBulkAll elems + uptoBulkAll spare + 1
  | .agg parts => uptoBulkAll parts + 1
  | .iface _ d => uptoBulk d + 1
  | .map entries => uptoBulkEntries entries + 1
  | .held _ => 1
def uptoBulkAll {H : Type} : List (DataW H) → Nat
  | [] => 0
  | d :: r => uptoBulk d + uptoBulkAll r
def uptoBulkEntries {H : Type} : List (Lit × DataW H) → Nat
  | [] => 0
  | x :: r => uptoBulkEntry x + uptoBulkEntries r
def uptoBulkEntry {H : Type} : Lit × DataW H → Nat
  | (.string bytes, d) => bytes.length + uptoBulk d + 1
  | (_, d) => uptoBulk d + 1
 end
def uptoSmall : (H : Type) → List (DataW H) → Bool := fun _ ds => decide (uptoBulkAll ds ≤ 1048576)
def OpenSpec.upto (s : _root_.Go.ChangeSpec) : _root_.Go.OpenSpec := { _root_.Go.OpenSpec.ofChange s with cond := some uptoSmall }

/-- 'laws.FnExactTurnSubst', WHERE WHAT IT READS IS OF BULK AT MOST 1048576: true; the input reads as it did. -/
def fnExactTurnSubstUptoRow : OpenClaim := { program := "ytnnkhjjecmldfaa", sum := "573be41e67d5f6b13449b007693dc7226c949bbc73794beb80b45d6955826157", func := "loop.example/g03209/laws.FnExactTurnSubst", spec := "fnExactTurnSubst", apart := false, narrowed := true }
def FnExactTurnSubstUptoSaid : Prop := fnExactTurnSubstUptoRow.holds Try.pinned (OpenSpec.upto fnExactTurnSubstSpec)

/-- 'laws.FnExactComposeSubst', WHERE WHAT IT READS IS OF BULK AT MOST 1048576: true; the input reads as it did. -/
def fnExactComposeSubstUptoRow : OpenClaim := { program := "ytnnkhjjecmldfaa", sum := "573be41e67d5f6b13449b007693dc7226c949bbc73794beb80b45d6955826157", func := "loop.example/g03209/laws.FnExactComposeSubst", spec := "fnExactComposeSubst", apart := false, narrowed := true }
def FnExactComposeSubstUptoSaid : Prop := fnExactComposeSubstUptoRow.holds Try.pinned (OpenSpec.upto fnExactComposeSubstSpec)

/-- 'laws.FnExactFormatSubst', WHERE WHAT IT READS IS OF BULK AT MOST 1048576: true; the input reads as it did. -/
def fnExactFormatSubstUptoRow : OpenClaim := { program := "ytnnkhjjecmldfaa", sum := "573be41e67d5f6b13449b007693dc7226c949bbc73794beb80b45d6955826157", func := "loop.example/g03209/laws.FnExactFormatSubst", spec := "fnExactFormatSubst", inPlace := ["internal/abi.NoEscape", "internal/bytealg.MakeNoZero"], apart := false, narrowed := true }
def FnExactFormatSubstUptoSaid : Prop := fnExactFormatSubstUptoRow.holds Try.pinned (OpenSpec.upto fnExactFormatSubstSpec)

/-- 'laws.FnExactJoin', WHERE WHAT IT READS IS OF BULK AT MOST 1048576: true; the input reads as it did. -/
def fnExactJoinUptoRow : OpenClaim := { program := "ytnnkhjjecmldfaa", sum := "573be41e67d5f6b13449b007693dc7226c949bbc73794beb80b45d6955826157", func := "loop.example/g03209/laws.FnExactJoin", spec := "fnExactJoin", inPlace := ["internal/abi.NoEscape", "internal/bytealg.MakeNoZero"], apart := false, narrowed := true }
def FnExactJoinUptoSaid : Prop := fnExactJoinUptoRow.holds Try.pinned (OpenSpec.upto fnExactJoinSpec)

/-- 'laws.FnExactMatrixOf', WHERE WHAT IT READS IS OF BULK AT MOST 1048576: true; the input reads as it did. -/
def fnExactMatrixOfUptoRow : OpenClaim := { program := "ytnnkhjjecmldfaa", sum := "573be41e67d5f6b13449b007693dc7226c949bbc73794beb80b45d6955826157", func := "loop.example/g03209/laws.FnExactMatrixOf", spec := "fnExactMatrixOf", inPlace := ["internal/bytealg.CountString", "internal/bytealg.IndexByteString", "internal/bytealg.IndexString"], named := ["internal/bytealg.MaxLen"], apart := false, narrowed := true }
def FnExactMatrixOfUptoSaid : Prop := fnExactMatrixOfUptoRow.holds Try.pinned (OpenSpec.upto fnExactMatrixOfSpec)

/-- 'laws.FnExactCountAfter', WHERE WHAT IT READS IS OF BULK AT MOST 1048576: true; the input reads as it did. -/
def fnExactCountAfterUptoRow : OpenClaim := { program := "ytnnkhjjecmldfaa", sum := "573be41e67d5f6b13449b007693dc7226c949bbc73794beb80b45d6955826157", func := "loop.example/g03209/laws.FnExactCountAfter", spec := "fnExactCountAfter", inPlace := ["internal/bytealg.CountString", "internal/bytealg.IndexByteString", "internal/bytealg.IndexString"], named := ["internal/bytealg.MaxLen"], apart := false, narrowed := true }
def FnExactCountAfterUptoSaid : Prop := fnExactCountAfterUptoRow.holds Try.pinned (OpenSpec.upto fnExactCountAfterSpec)

/-- 'laws.FnExactLengthAfter', WHERE WHAT IT READS IS OF BULK AT MOST 1048576: true; the input reads as it did. -/
def fnExactLengthAfterUptoRow : OpenClaim := { program := "ytnnkhjjecmldfaa", sum := "573be41e67d5f6b13449b007693dc7226c949bbc73794beb80b45d6955826157", func := "loop.example/g03209/laws.FnExactLengthAfter", spec := "fnExactLengthAfter", inPlace := ["internal/bytealg.CountString", "internal/bytealg.IndexByteString", "internal/bytealg.IndexString"], named := ["internal/bytealg.MaxLen"], apart := false, narrowed := true }
def FnExactLengthAfterUptoSaid : Prop := fnExactLengthAfterUptoRow.holds Try.pinned (OpenSpec.upto fnExactLengthAfterSpec)

/-- 'laws.FnExactIsPrimitiveSubst', WHERE WHAT IT READS IS OF BULK AT MOST 1048576: true; the input reads as it did. -/
def fnExactIsPrimitiveSubstUptoRow : OpenClaim := { program := "ytnnkhjjecmldfaa", sum := "573be41e67d5f6b13449b007693dc7226c949bbc73794beb80b45d6955826157", func := "loop.example/g03209/laws.FnExactIsPrimitiveSubst", spec := "fnExactIsPrimitiveSubst", inPlace := ["internal/bytealg.CountString", "internal/bytealg.IndexByteString", "internal/bytealg.IndexString"], named := ["internal/bytealg.MaxLen"], apart := false, narrowed := true }
def FnExactIsPrimitiveSubstUptoSaid : Prop := fnExactIsPrimitiveSubstUptoRow.holds Try.pinned (OpenSpec.upto fnExactIsPrimitiveSubstSpec)

/-- 'laws.FnExactCountLetter', WHERE WHAT IT READS IS OF BULK AT MOST 1048576: true; the input reads as it did. -/
def fnExactCountLetterUptoRow : OpenClaim := { program := "ytnnkhjjecmldfaa", sum := "573be41e67d5f6b13449b007693dc7226c949bbc73794beb80b45d6955826157", func := "loop.example/g03209/laws.FnExactCountLetter", spec := "fnExactCountLetter", inPlace := ["internal/bytealg.CountString", "internal/bytealg.IndexByteString", "internal/bytealg.IndexString"], named := ["internal/bytealg.MaxLen"], apart := false, narrowed := true }
def FnExactCountLetterUptoSaid : Prop := fnExactCountLetterUptoRow.holds Try.pinned (OpenSpec.upto fnExactCountLetterSpec)

/-- 'laws.FnExactSwapLetters', WHERE WHAT IT READS IS OF BULK AT MOST 1048576: true; the input reads as it did. -/
def fnExactSwapLettersUptoRow : OpenClaim := { program := "ytnnkhjjecmldfaa", sum := "573be41e67d5f6b13449b007693dc7226c949bbc73794beb80b45d6955826157", func := "loop.example/g03209/laws.FnExactSwapLetters", spec := "fnExactSwapLetters", inPlace := ["internal/bytealg.CountString", "internal/bytealg.IndexByteString", "internal/bytealg.IndexString"], named := ["internal/bytealg.MaxLen"], apart := false, narrowed := true }
def FnExactSwapLettersUptoSaid : Prop := fnExactSwapLettersUptoRow.holds Try.pinned (OpenSpec.upto fnExactSwapLettersSpec)

end Rows
end Go.Proofs.Ytnnkhjjecmldfaa
