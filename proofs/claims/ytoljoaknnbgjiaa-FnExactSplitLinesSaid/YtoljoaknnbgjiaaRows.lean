/-
  No cell of these rows narrows 'for every input' (looked for: loops, veiled, ifaces, maps, wideKeys, modest, calm, conditions, laid).
  DERIVED. THE GIVEN ROWS OF THIS SEAT. 12 by the template 'for every input the law returns true; each argument reads behind the call as it read before'; 0 by the template 'total and deterministic' (their statements: YtoljoaknnbgjiaaTotals.lean).
  GIVEN WITH THE SEED: the statements are not yours to turn. If you find one false, say at which input.
  Laid BY PROGRAM, IN A SANDBOX (cutbox-rows.mjs): the forced cells as the released guide's own fill.sh prints them over the translation 4565dee084144fb5… (all of the seat's roots in one cut). By AI agents, Wed Nov 11 2026. No macro, syntax, notation, axiom, sorry.
-/
import Derived.Test.YtoljoaknnbgjiaaChecked
import GoSem.Claim
import GoSem.ClaimJoined
import GoSem.ClaimMapViews
import Derived.JoinedTies
import Derived.KernelRfl
namespace Go.Proofs.Ytoljoaknnbgjiaa
/- THE CELL 'sum', in the pinned program and in every row, IS THE sha256 OF THE DUMP (.gsa) THAT YtoljoaknnbgjiaaProg.lean LOADS. Nothing in Lean hashes anything: it is a label: what it is worth is what the hold of that sum in a sandbox is worth. -/
noncomputable def Try.pinned : Pinned := { name := "ytoljoaknnbgjiaa", sum := "4565dee084144fb59ce3ade8e874a2b7fbecbd2639417a1c7852279540b92b59", checked := Try.checked }
namespace Rows
def none {H : Type} : Left H := { results := [], args := [] }

/-- 'laws.FnExactConstants': WHATEVER THE INPUT: true; the input reads as it did. -/
def fnExactConstantsSpec : ChangeSpec := { name := "fnExactConstants", fn := fun _ => fun
  | [] => { results := [.lit (.bool true)], args := [] }
  | _ => none }
def fnExactConstantsRow : OpenClaim := { program := "ytoljoaknnbgjiaa", sum := "4565dee084144fb59ce3ade8e874a2b7fbecbd2639417a1c7852279540b92b59", func := "loop.example/g03209/laws.FnExactConstants", spec := "fnExactConstants", apart := false }
def FnExactConstantsSaid : Prop := fnExactConstantsRow.holds Try.pinned (OpenSpec.ofChange fnExactConstantsSpec)

/-- ITS FALSE NEIGHBOUR: 'it returns false'. Refute it at one input. -/
def fnExactConstantsWrong : ChangeSpec := { name := "fnExactConstants", fn := fun _ => fun
  | [] => { results := [.lit (.bool false)], args := [] }
  | _ => none }
def FnExactConstantsWrongFalsely : Prop := fnExactConstantsRow.holds Try.pinned (OpenSpec.ofChange fnExactConstantsWrong)

/-- 'laws.FnExactIsDigits': WHATEVER THE INPUT: true; the input reads as it did. -/
def fnExactIsDigitsSpec : ChangeSpec := { name := "fnExactIsDigits", fn := fun _ => fun
  | [d] => { results := [.lit (.bool true)], args := [d] }
  | _ => none }
def fnExactIsDigitsRow : OpenClaim := { program := "ytoljoaknnbgjiaa", sum := "4565dee084144fb59ce3ade8e874a2b7fbecbd2639417a1c7852279540b92b59", func := "loop.example/g03209/laws.FnExactIsDigits", spec := "fnExactIsDigits", apart := false }
def FnExactIsDigitsSaid : Prop := fnExactIsDigitsRow.holds Try.pinned (OpenSpec.ofChange fnExactIsDigitsSpec)

/-- ITS FALSE NEIGHBOUR: 'it returns false'. Refute it at one input. -/
def fnExactIsDigitsWrong : ChangeSpec := { name := "fnExactIsDigits", fn := fun _ => fun
  | [d] => { results := [.lit (.bool false)], args := [d] }
  | _ => none }
def FnExactIsDigitsWrongFalsely : Prop := fnExactIsDigitsRow.holds Try.pinned (OpenSpec.ofChange fnExactIsDigitsWrong)

/-- 'laws.FnExactWordOk': WHATEVER THE INPUT: true; the input reads as it did. -/
def fnExactWordOkSpec : ChangeSpec := { name := "fnExactWordOk", fn := fun _ => fun
  | [d] => { results := [.lit (.bool true)], args := [d] }
  | _ => none }
def fnExactWordOkRow : OpenClaim := { program := "ytoljoaknnbgjiaa", sum := "4565dee084144fb59ce3ade8e874a2b7fbecbd2639417a1c7852279540b92b59", func := "loop.example/g03209/laws.FnExactWordOk", spec := "fnExactWordOk", apart := false }
def FnExactWordOkSaid : Prop := fnExactWordOkRow.holds Try.pinned (OpenSpec.ofChange fnExactWordOkSpec)

/-- ITS FALSE NEIGHBOUR: 'it returns false'. Refute it at one input. -/
def fnExactWordOkWrong : ChangeSpec := { name := "fnExactWordOk", fn := fun _ => fun
  | [d] => { results := [.lit (.bool false)], args := [d] }
  | _ => none }
def FnExactWordOkWrongFalsely : Prop := fnExactWordOkRow.holds Try.pinned (OpenSpec.ofChange fnExactWordOkWrong)

/-- 'laws.FnExactIsName': WHATEVER THE INPUT: true; the input reads as it did. -/
def fnExactIsNameSpec : ChangeSpec := { name := "fnExactIsName", fn := fun _ => fun
  | [d] => { results := [.lit (.bool true)], args := [d] }
  | _ => none }
def fnExactIsNameRow : OpenClaim := { program := "ytoljoaknnbgjiaa", sum := "4565dee084144fb59ce3ade8e874a2b7fbecbd2639417a1c7852279540b92b59", func := "loop.example/g03209/laws.FnExactIsName", spec := "fnExactIsName", apart := false }
def FnExactIsNameSaid : Prop := fnExactIsNameRow.holds Try.pinned (OpenSpec.ofChange fnExactIsNameSpec)

/-- ITS FALSE NEIGHBOUR: 'it returns false'. Refute it at one input. -/
def fnExactIsNameWrong : ChangeSpec := { name := "fnExactIsName", fn := fun _ => fun
  | [d] => { results := [.lit (.bool false)], args := [d] }
  | _ => none }
def FnExactIsNameWrongFalsely : Prop := fnExactIsNameRow.holds Try.pinned (OpenSpec.ofChange fnExactIsNameWrong)

/-- 'laws.FnExactBeforeWord': WHATEVER THE INPUT: true; the input reads as it did. -/
def fnExactBeforeWordSpec : ChangeSpec := { name := "fnExactBeforeWord", fn := fun _ => fun
  | [d1, d2] => { results := [.lit (.bool true)], args := [d1, d2] }
  | _ => none }
def fnExactBeforeWordRow : OpenClaim := { program := "ytoljoaknnbgjiaa", sum := "4565dee084144fb59ce3ade8e874a2b7fbecbd2639417a1c7852279540b92b59", func := "loop.example/g03209/laws.FnExactBeforeWord", spec := "fnExactBeforeWord", apart := false }
def FnExactBeforeWordSaid : Prop := fnExactBeforeWordRow.holds Try.pinned (OpenSpec.ofChange fnExactBeforeWordSpec)

/-- ITS FALSE NEIGHBOUR: 'it returns false'. Refute it at one input. -/
def fnExactBeforeWordWrong : ChangeSpec := { name := "fnExactBeforeWord", fn := fun _ => fun
  | [d1, d2] => { results := [.lit (.bool false)], args := [d1, d2] }
  | _ => none }
def FnExactBeforeWordWrongFalsely : Prop := fnExactBeforeWordRow.holds Try.pinned (OpenSpec.ofChange fnExactBeforeWordWrong)

/-- 'laws.FnExactShiftWord': WHATEVER THE INPUT: true; the input reads as it did. -/
def fnExactShiftWordSpec : ChangeSpec := { name := "fnExactShiftWord", fn := fun _ => fun
  | [d1, d2] => { results := [.lit (.bool true)], args := [d1, d2] }
  | _ => none }
def fnExactShiftWordRow : OpenClaim := { program := "ytoljoaknnbgjiaa", sum := "4565dee084144fb59ce3ade8e874a2b7fbecbd2639417a1c7852279540b92b59", func := "loop.example/g03209/laws.FnExactShiftWord", spec := "fnExactShiftWord", apart := false }
def FnExactShiftWordSaid : Prop := fnExactShiftWordRow.holds Try.pinned (OpenSpec.ofChange fnExactShiftWordSpec)

/-- ITS FALSE NEIGHBOUR: 'it returns false'. Refute it at one input. -/
def fnExactShiftWordWrong : ChangeSpec := { name := "fnExactShiftWord", fn := fun _ => fun
  | [d1, d2] => { results := [.lit (.bool false)], args := [d1, d2] }
  | _ => none }
def FnExactShiftWordWrongFalsely : Prop := fnExactShiftWordRow.holds Try.pinned (OpenSpec.ofChange fnExactShiftWordWrong)

/-- 'laws.FnExactCommonStart': WHATEVER THE INPUT: true; the input reads as it did. -/
def fnExactCommonStartSpec : ChangeSpec := { name := "fnExactCommonStart", fn := fun _ => fun
  | [d1, d2] => { results := [.lit (.bool true)], args := [d1, d2] }
  | _ => none }
def fnExactCommonStartRow : OpenClaim := { program := "ytoljoaknnbgjiaa", sum := "4565dee084144fb59ce3ade8e874a2b7fbecbd2639417a1c7852279540b92b59", func := "loop.example/g03209/laws.FnExactCommonStart", spec := "fnExactCommonStart", apart := false }
def FnExactCommonStartSaid : Prop := fnExactCommonStartRow.holds Try.pinned (OpenSpec.ofChange fnExactCommonStartSpec)

/-- ITS FALSE NEIGHBOUR: 'it returns false'. Refute it at one input. -/
def fnExactCommonStartWrong : ChangeSpec := { name := "fnExactCommonStart", fn := fun _ => fun
  | [d1, d2] => { results := [.lit (.bool false)], args := [d1, d2] }
  | _ => none }
def FnExactCommonStartWrongFalsely : Prop := fnExactCommonStartRow.holds Try.pinned (OpenSpec.ofChange fnExactCommonStartWrong)

/-- 'laws.FnExactTurnWord': WHATEVER THE INPUT: true; the input reads as it did. -/
def fnExactTurnWordSpec : ChangeSpec := { name := "fnExactTurnWord", fn := fun _ => fun
  | [d] => { results := [.lit (.bool true)], args := [d] }
  | _ => none }
def fnExactTurnWordRow : OpenClaim := { program := "ytoljoaknnbgjiaa", sum := "4565dee084144fb59ce3ade8e874a2b7fbecbd2639417a1c7852279540b92b59", func := "loop.example/g03209/laws.FnExactTurnWord", spec := "fnExactTurnWord", apart := false }
def FnExactTurnWordSaid : Prop := fnExactTurnWordRow.holds Try.pinned (OpenSpec.ofChange fnExactTurnWordSpec)

/-- ITS FALSE NEIGHBOUR: 'it returns false'. Refute it at one input. -/
def fnExactTurnWordWrong : ChangeSpec := { name := "fnExactTurnWord", fn := fun _ => fun
  | [d] => { results := [.lit (.bool false)], args := [d] }
  | _ => none }
def FnExactTurnWordWrongFalsely : Prop := fnExactTurnWordRow.holds Try.pinned (OpenSpec.ofChange fnExactTurnWordWrong)

/-- 'laws.FnExactSplitAny': WHATEVER THE INPUT: true; the input reads as it did. -/
def fnExactSplitAnySpec : ChangeSpec := { name := "fnExactSplitAny", fn := fun _ => fun
  | [d1, d2] => { results := [.lit (.bool true)], args := [d1, d2] }
  | _ => none }
def fnExactSplitAnyRow : OpenClaim := { program := "ytoljoaknnbgjiaa", sum := "4565dee084144fb59ce3ade8e874a2b7fbecbd2639417a1c7852279540b92b59", func := "loop.example/g03209/laws.FnExactSplitAny", spec := "fnExactSplitAny", inPlace := ["internal/bytealg.IndexByteString"], apart := false }
def FnExactSplitAnySaid : Prop := fnExactSplitAnyRow.holds Try.pinned (OpenSpec.ofChange fnExactSplitAnySpec)

/-- ITS FALSE NEIGHBOUR: 'it returns false'. Refute it at one input. -/
def fnExactSplitAnyWrong : ChangeSpec := { name := "fnExactSplitAny", fn := fun _ => fun
  | [d1, d2] => { results := [.lit (.bool false)], args := [d1, d2] }
  | _ => none }
def FnExactSplitAnyWrongFalsely : Prop := fnExactSplitAnyRow.holds Try.pinned (OpenSpec.ofChange fnExactSplitAnyWrong)

/-- 'laws.FnExactCountsOf': WHATEVER THE INPUT: true; the input reads as it did. -/
def fnExactCountsOfSpec : ChangeSpec := { name := "fnExactCountsOf", fn := fun _ => fun
  | [d] => { results := [.lit (.bool true)], args := [d] }
  | _ => none }
def fnExactCountsOfRow : OpenClaim := { program := "ytoljoaknnbgjiaa", sum := "4565dee084144fb59ce3ade8e874a2b7fbecbd2639417a1c7852279540b92b59", func := "loop.example/g03209/laws.FnExactCountsOf", spec := "fnExactCountsOf", apart := false }
def FnExactCountsOfSaid : Prop := fnExactCountsOfRow.holds Try.pinned (OpenSpec.ofChange fnExactCountsOfSpec)

/-- ITS FALSE NEIGHBOUR: 'it returns false'. Refute it at one input. -/
def fnExactCountsOfWrong : ChangeSpec := { name := "fnExactCountsOf", fn := fun _ => fun
  | [d] => { results := [.lit (.bool false)], args := [d] }
  | _ => none }
def FnExactCountsOfWrongFalsely : Prop := fnExactCountsOfRow.holds Try.pinned (OpenSpec.ofChange fnExactCountsOfWrong)

/-- 'laws.FnExactPlacesIn': WHATEVER THE INPUT: true; the input reads as it did. -/
def fnExactPlacesInSpec : ChangeSpec := { name := "fnExactPlacesIn", fn := fun _ => fun
  | [d1, d2] => { results := [.lit (.bool true)], args := [d1, d2] }
  | _ => none }
def fnExactPlacesInRow : OpenClaim := { program := "ytoljoaknnbgjiaa", sum := "4565dee084144fb59ce3ade8e874a2b7fbecbd2639417a1c7852279540b92b59", func := "loop.example/g03209/laws.FnExactPlacesIn", spec := "fnExactPlacesIn", apart := false }
def FnExactPlacesInSaid : Prop := fnExactPlacesInRow.holds Try.pinned (OpenSpec.ofChange fnExactPlacesInSpec)

/-- ITS FALSE NEIGHBOUR: 'it returns false'. Refute it at one input. -/
def fnExactPlacesInWrong : ChangeSpec := { name := "fnExactPlacesIn", fn := fun _ => fun
  | [d1, d2] => { results := [.lit (.bool false)], args := [d1, d2] }
  | _ => none }
def FnExactPlacesInWrongFalsely : Prop := fnExactPlacesInRow.holds Try.pinned (OpenSpec.ofChange fnExactPlacesInWrong)

/-- 'laws.FnExactSplitLines': WHATEVER THE INPUT: true; the input reads as it did. -/
def fnExactSplitLinesSpec : ChangeSpec := { name := "fnExactSplitLines", fn := fun _ => fun
  | [d] => { results := [.lit (.bool true)], args := [d] }
  | _ => none }
def fnExactSplitLinesRow : OpenClaim := { program := "ytoljoaknnbgjiaa", sum := "4565dee084144fb59ce3ade8e874a2b7fbecbd2639417a1c7852279540b92b59", func := "loop.example/g03209/laws.FnExactSplitLines", spec := "fnExactSplitLines", inPlace := ["internal/bytealg.IndexByteString"], apart := false }
def FnExactSplitLinesSaid : Prop := fnExactSplitLinesRow.holds Try.pinned (OpenSpec.ofChange fnExactSplitLinesSpec)

/-- ITS FALSE NEIGHBOUR: 'it returns false'. Refute it at one input. -/
def fnExactSplitLinesWrong : ChangeSpec := { name := "fnExactSplitLines", fn := fun _ => fun
  | [d] => { results := [.lit (.bool false)], args := [d] }
  | _ => none }
def FnExactSplitLinesWrongFalsely : Prop := fnExactSplitLinesRow.holds Try.pinned (OpenSpec.ofChange fnExactSplitLinesWrong)

/- THE SECOND FORM. 'bulk': how many values and letters a reading holds, each counted each time it is reached (what is shared counts as often as it is met; a slice's spare places count too). A statement '..UptoSaid' is the law's where the arguments, and the package variables that the reading takes, are together of bulk at most 1048576: NARROWER than '..Said'. Prove '..Said' where nothing that the law and all that it calls make is longer than what came in: it says more and counts as full. Else prove '..UptoSaid'. A law counts once. -/
mutual
def uptoBulk {H : Type} : DataW H → Nat
  | .lit (.string bytes) => bytes.length + 1
  | .lit _ => 1
  | .nil => 1
  | .ptr d => uptoBulk d + 1
  | .slice elems spare => uptoBulkAll elems + uptoBulkAll spare + 1
  | .agg parts => uptoBulkAll parts + 1
  | .iface _ d => uptoBulk d + 1
  | .map entries => uptoBulkEntries entries + 1
  | .held _ => 1
def uptoBulkAll {H : Type} : List (DataW H) → Nat
  | [] => 0
  | d :: r => uptoBulk d + uptoBulkAll r
def uptoBulkEntries {H : Type} : List (Lit × DataW H) → Nat
  | [] => 0
  | x :: r => uptoBulkEntry x + uptoBulkEntries r
def uptoBulkEntry {H : Type} : Lit × DataW H → Nat
  | (.string bytes, d) => bytes.length + uptoBulk d + 1
  | (_, d) => uptoBulk d + 1
 end
def uptoSmall : (H : Type) → List (DataW H) → Bool := fun _ ds => decide (uptoBulkAll ds ≤ 1048576)
def OpenSpec.upto (s : _root_.Go.ChangeSpec) : _root_.Go.OpenSpec := { _root_.Go.OpenSpec.ofChange s with cond := some uptoSmall }

/-- 'laws.FnExactConstants', WHERE WHAT IT READS IS OF BULK AT MOST 1048576: true; the input reads as it did. -/
def fnExactConstantsUptoRow : OpenClaim := { program := "ytoljoaknnbgjiaa", sum := "4565dee084144fb59ce3ade8e874a2b7fbecbd2639417a1c7852279540b92b59", func := "loop.example/g03209/laws.FnExactConstants", spec := "fnExactConstants", apart := false, narrowed := true }
def FnExactConstantsUptoSaid : Prop := fnExactConstantsUptoRow.holds Try.pinned (OpenSpec.upto fnExactConstantsSpec)

/-- 'laws.FnExactIsDigits', WHERE WHAT IT READS IS OF BULK AT MOST 1048576: true; the input reads as it did. -/
def fnExactIsDigitsUptoRow : OpenClaim := { program := "ytoljoaknnbgjiaa", sum := "4565dee084144fb59ce3ade8e874a2b7fbecbd2639417a1c7852279540b92b59", func := "loop.example/g03209/laws.FnExactIsDigits", spec := "fnExactIsDigits", apart := false, narrowed := true }
def FnExactIsDigitsUptoSaid : Prop := fnExactIsDigitsUptoRow.holds Try.pinned (OpenSpec.upto fnExactIsDigitsSpec)

/-- 'laws.FnExactWordOk', WHERE WHAT IT READS IS OF BULK AT MOST 1048576: true; the input reads as it did. -/
def fnExactWordOkUptoRow : OpenClaim := { program := "ytoljoaknnbgjiaa", sum := "4565dee084144fb59ce3ade8e874a2b7fbecbd2639417a1c7852279540b92b59", func := "loop.example/g03209/laws.FnExactWordOk", spec := "fnExactWordOk", apart := false, narrowed := true }
def FnExactWordOkUptoSaid : Prop := fnExactWordOkUptoRow.holds Try.pinned (OpenSpec.upto fnExactWordOkSpec)

/-- 'laws.FnExactIsName', WHERE WHAT IT READS IS OF BULK AT MOST 1048576: true; the input reads as it did. -/
def fnExactIsNameUptoRow : OpenClaim := { program := "ytoljoaknnbgjiaa", sum := "4565dee084144fb59ce3ade8e874a2b7fbecbd2639417a1c7852279540b92b59", func := "loop.example/g03209/laws.FnExactIsName", spec := "fnExactIsName", apart := false, narrowed := true }
def FnExactIsNameUptoSaid : Prop := fnExactIsNameUptoRow.holds Try.pinned (OpenSpec.upto fnExactIsNameSpec)

/-- 'laws.FnExactBeforeWord', WHERE WHAT IT READS IS OF BULK AT MOST 1048576: true; the input reads as it did. -/
def fnExactBeforeWordUptoRow : OpenClaim := { program := "ytoljoaknnbgjiaa", sum := "4565dee084144fb59ce3ade8e874a2b7fbecbd2639417a1c7852279540b92b59", func := "loop.example/g03209/laws.FnExactBeforeWord", spec := "fnExactBeforeWord", apart := false, narrowed := true }
def FnExactBeforeWordUptoSaid : Prop := fnExactBeforeWordUptoRow.holds Try.pinned (OpenSpec.upto fnExactBeforeWordSpec)

/-- 'laws.FnExactShiftWord', WHERE WHAT IT READS IS OF BULK AT MOST 1048576: true; the input reads as it did. -/
def fnExactShiftWordUptoRow : OpenClaim := { program := "ytoljoaknnbgjiaa", sum := "4565dee084144fb59ce3ade8e874a2b7fbecbd2639417a1c7852279540b92b59", func := "loop.example/g03209/laws.FnExactShiftWord", spec := "fnExactShiftWord", apart := false, narrowed := true }
def FnExactShiftWordUptoSaid : Prop := fnExactShiftWordUptoRow.holds Try.pinned (OpenSpec.upto fnExactShiftWordSpec)

/-- 'laws.FnExactCommonStart', WHERE WHAT IT READS IS OF BULK AT MOST 1048576: true; the input reads as it did. -/
def fnExactCommonStartUptoRow : OpenClaim := { program := "ytoljoaknnbgjiaa", sum := "4565dee084144fb59ce3ade8e874a2b7fbecbd2639417a1c7852279540b92b59", func := "loop.example/g03209/laws.FnExactCommonStart", spec := "fnExactCommonStart", apart := false, narrowed := true }
def FnExactCommonStartUptoSaid : Prop := fnExactCommonStartUptoRow.holds Try.pinned (OpenSpec.upto fnExactCommonStartSpec)

/-- 'laws.FnExactTurnWord', WHERE WHAT IT READS IS OF BULK AT MOST 1048576: true; the input reads as it did. -/
def fnExactTurnWordUptoRow : OpenClaim := { program := "ytoljoaknnbgjiaa", sum := "4565dee084144fb59ce3ade8e874a2b7fbecbd2639417a1c7852279540b92b59", func := "loop.example/g03209/laws.FnExactTurnWord", spec := "fnExactTurnWord", apart := false, narrowed := true }
def FnExactTurnWordUptoSaid : Prop := fnExactTurnWordUptoRow.holds Try.pinned (OpenSpec.upto fnExactTurnWordSpec)

/-- 'laws.FnExactSplitAny', WHERE WHAT IT READS IS OF BULK AT MOST 1048576: true; the input reads as it did. -/
def fnExactSplitAnyUptoRow : OpenClaim := { program := "ytoljoaknnbgjiaa", sum := "4565dee084144fb59ce3ade8e874a2b7fbecbd2639417a1c7852279540b92b59", func := "loop.example/g03209/laws.FnExactSplitAny", spec := "fnExactSplitAny", inPlace := ["internal/bytealg.IndexByteString"], apart := false, narrowed := true }
def FnExactSplitAnyUptoSaid : Prop := fnExactSplitAnyUptoRow.holds Try.pinned (OpenSpec.upto fnExactSplitAnySpec)

/-- 'laws.FnExactCountsOf', WHERE WHAT IT READS IS OF BULK AT MOST 1048576: true; the input reads as it did. -/
def fnExactCountsOfUptoRow : OpenClaim := { program := "ytoljoaknnbgjiaa", sum := "4565dee084144fb59ce3ade8e874a2b7fbecbd2639417a1c7852279540b92b59", func := "loop.example/g03209/laws.FnExactCountsOf", spec := "fnExactCountsOf", apart := false, narrowed := true }
def FnExactCountsOfUptoSaid : Prop := fnExactCountsOfUptoRow.holds Try.pinned (OpenSpec.upto fnExactCountsOfSpec)

/-- 'laws.FnExactPlacesIn', WHERE WHAT IT READS IS OF BULK AT MOST 1048576: true; the input reads as it did. -/
def fnExactPlacesInUptoRow : OpenClaim := { program := "ytoljoaknnbgjiaa", sum := "4565dee084144fb59ce3ade8e874a2b7fbecbd2639417a1c7852279540b92b59", func := "loop.example/g03209/laws.FnExactPlacesIn", spec := "fnExactPlacesIn", apart := false, narrowed := true }
def FnExactPlacesInUptoSaid : Prop := fnExactPlacesInUptoRow.holds Try.pinned (OpenSpec.upto fnExactPlacesInSpec)

/-- 'laws.FnExactSplitLines', WHERE WHAT IT READS IS OF BULK AT MOST 1048576: true; the input reads as it did. -/
def fnExactSplitLinesUptoRow : OpenClaim := { program := "ytoljoaknnbgjiaa", sum := "4565dee084144fb59ce3ade8e874a2b7fbecbd2639417a1c7852279540b92b59", func := "loop.example/g03209/laws.FnExactSplitLines", spec := "fnExactSplitLines", inPlace := ["internal/bytealg.IndexByteString"], apart := false, narrowed := true }
def FnExactSplitLinesUptoSaid : Prop := fnExactSplitLinesUptoRow.holds Try.pinned (OpenSpec.upto fnExactSplitLinesSpec)

end Rows
end Go.Proofs.Ytoljoaknnbgjiaa
