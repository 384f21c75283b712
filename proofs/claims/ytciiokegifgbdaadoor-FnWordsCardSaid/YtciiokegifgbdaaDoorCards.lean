/-
  DERIVED. GIVEN WITH THE SEED: THE CARDS: each row of YtciiokegifgbdaaDoorRows.lean that lists a variable, with what it lists TIED to the program's text (the seventh form; the later family's looks); each row that meets fmt, with fmt's text TOLD by the authors' own Lean function (tested against real Go, not proved from fmt's source: count such statements apart). THE CARD IS WHAT COUNTS. Prove the row's statement (the work); the ties are given (YtciiokegifgbdaaDoorTie.lean); close each card by the builder's one call (the guide's Derived/Test/ToyasCard.lean, 'card_holds'). Laid BY PROGRAM, IN A SANDBOX (cutbox-door.mjs). By AI agents, Wed Nov 11 2026. No macro, syntax, notation, axiom, sorry.
-/
import Derived.Test.YtciiokegifgbdaaDoorRows
import GoSem.ClaimSeven
namespace Go.Proofs.YtciiokegifgbdaaDoor
namespace Rows

/-- THE TIED CARD OF 'laws.FnExactFormatInt'. -/
def fnExactFormatIntCard : Claim7 := { stood := { row := fnExactFormatIntRow, standIns := [], harness := (true, "a91994849bd41b8e5424f1b654ff65b1d5c48d28fccc737ff8020d2c6528c577"), looks := true }, kinds := [], alts := [], laidByText := true, laidKinds := [.data, .data, .data], laidTests := true, laidLooks := .later }
def FnExactFormatIntCardSaid : Prop := Claim7.holds Tryd.pinned (.plain (OpenSpec.ofChange fnExactFormatIntSpec)) fnExactFormatIntCard

/-- THE TIED CARD OF 'laws.FnExactParseInt'. -/
def fnExactParseIntCard : Claim7 := { stood := { row := fnExactParseIntRow, standIns := [], harness := (true, "a91994849bd41b8e5424f1b654ff65b1d5c48d28fccc737ff8020d2c6528c577"), looks := true }, kinds := [], alts := [], laidByText := true, laidKinds := [.data, .data, .data, .sentinel, .sentinel], laidTests := true, laidLooks := .later }
def FnExactParseIntCardSaid : Prop := Claim7.holds Tryd.pinned (.plain (OpenSpec.ofChange fnExactParseIntSpec)) fnExactParseIntCard

/-- THE TIED CARD OF 'laws.FnWords'. -/
def fnWordsCard : Claim7 := { stood := { row := fnWordsRow, standIns := [], harness := (true, "a91994849bd41b8e5424f1b654ff65b1d5c48d28fccc737ff8020d2c6528c577"), looks := true }, kinds := [], alts := [], laidByText := true, laidKinds := [.data, .data, .data, .sentinel, .sentinel], laidTests := true, laidLooks := .later }
def FnWordsCardSaid : Prop := Claim7.holds Tryd.pinned (.plain (OpenSpec.ofChange fnWordsSpec)) fnWordsCard

/-- THE TIED CARD OF 'laws.FnExactParseSubst'. -/
def fnExactParseSubstCard : Claim7 := { stood := { row := fnExactParseSubstRow, standIns := [], harness := (true, "a91994849bd41b8e5424f1b654ff65b1d5c48d28fccc737ff8020d2c6528c577"), looks := true }, kinds := [], alts := [], laidByText := true, laidKinds := [.data, .pinned], laidTests := true, laidLooks := .later }
def FnExactParseSubstCardSaid : Prop := Claim7.holds Tryd.pinned (.plain (OpenSpec.ofChange fnExactParseSubstSpec)) fnExactParseSubstCard

/-- THE TIED CARD OF 'laws.FnExactNamedSubst'. -/
def fnExactNamedSubstCard : Claim7 := { stood := { row := fnExactNamedSubstRow, standIns := [], harness := (true, "a91994849bd41b8e5424f1b654ff65b1d5c48d28fccc737ff8020d2c6528c577"), looks := true }, kinds := [], alts := [], laidByText := true, laidKinds := [.data, .pinned], laidTests := true, laidLooks := .later }
def FnExactNamedSubstCardSaid : Prop := Claim7.holds Tryd.pinned (.plain (OpenSpec.ofChange fnExactNamedSubstSpec)) fnExactNamedSubstCard

/-- THE SECOND FORM's CARD OF 'laws.FnExactFormatInt'. -/
def fnExactFormatIntUptoCard : Claim7 := { stood := { row := fnExactFormatIntUptoRow, standIns := [], harness := (true, "a91994849bd41b8e5424f1b654ff65b1d5c48d28fccc737ff8020d2c6528c577"), looks := true }, kinds := [], alts := [], laidByText := true, laidKinds := [.data, .data, .data], laidTests := true, laidLooks := .later }
def FnExactFormatIntUptoCardSaid : Prop := Claim7.holds Tryd.pinned (.plain (OpenSpec.upto fnExactFormatIntSpec)) fnExactFormatIntUptoCard

/-- THE SECOND FORM's CARD OF 'laws.FnExactParseInt'. -/
def fnExactParseIntUptoCard : Claim7 := { stood := { row := fnExactParseIntUptoRow, standIns := [], harness := (true, "a91994849bd41b8e5424f1b654ff65b1d5c48d28fccc737ff8020d2c6528c577"), looks := true }, kinds := [], alts := [], laidByText := true, laidKinds := [.data, .data, .data, .sentinel, .sentinel], laidTests := true, laidLooks := .later }
def FnExactParseIntUptoCardSaid : Prop := Claim7.holds Tryd.pinned (.plain (OpenSpec.upto fnExactParseIntSpec)) fnExactParseIntUptoCard

/-- THE SECOND FORM's CARD OF 'laws.FnWords'. -/
def fnWordsUptoCard : Claim7 := { stood := { row := fnWordsUptoRow, standIns := [], harness := (true, "a91994849bd41b8e5424f1b654ff65b1d5c48d28fccc737ff8020d2c6528c577"), looks := true }, kinds := [], alts := [], laidByText := true, laidKinds := [.data, .data, .data, .sentinel, .sentinel], laidTests := true, laidLooks := .later }
def FnWordsUptoCardSaid : Prop := Claim7.holds Tryd.pinned (.plain (OpenSpec.upto fnWordsSpec)) fnWordsUptoCard

/-- THE SECOND FORM's CARD OF 'laws.FnExactParseSubst'. -/
def fnExactParseSubstUptoCard : Claim7 := { stood := { row := fnExactParseSubstUptoRow, standIns := [], harness := (true, "a91994849bd41b8e5424f1b654ff65b1d5c48d28fccc737ff8020d2c6528c577"), looks := true }, kinds := [], alts := [], laidByText := true, laidKinds := [.data, .pinned], laidTests := true, laidLooks := .later }
def FnExactParseSubstUptoCardSaid : Prop := Claim7.holds Tryd.pinned (.plain (OpenSpec.upto fnExactParseSubstSpec)) fnExactParseSubstUptoCard

/-- THE SECOND FORM's CARD OF 'laws.FnExactNamedSubst'. -/
def fnExactNamedSubstUptoCard : Claim7 := { stood := { row := fnExactNamedSubstUptoRow, standIns := [], harness := (true, "a91994849bd41b8e5424f1b654ff65b1d5c48d28fccc737ff8020d2c6528c577"), looks := true }, kinds := [], alts := [], laidByText := true, laidKinds := [.data, .pinned], laidTests := true, laidLooks := .later }
def FnExactNamedSubstUptoCardSaid : Prop := Claim7.holds Tryd.pinned (.plain (OpenSpec.upto fnExactNamedSubstSpec)) fnExactNamedSubstUptoCard
end Rows
end Go.Proofs.YtciiokegifgbdaaDoor
