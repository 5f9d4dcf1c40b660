/-
  DERIVED. GIVEN WITH THE SEED: THE CARDS: each row of YtaogcafknbfkmaaDoorRows.lean that lists a variable, with what it lists TIED to the program's text (the seventh form; the later family's looks); each row that meets fmt, with fmt's text TOLD by the authors' own Lean function (tested against real Go, not proved from fmt's source: count such statements apart). THE CARD IS WHAT COUNTS. Prove the row's statement (the work); the ties are given (YtaogcafknbfkmaaDoorTie.lean); close each card by the builder's one call (the guide's Derived/Test/ToyasCard.lean, 'card_holds'). Laid BY PROGRAM, IN A SANDBOX (cutbox-door.mjs). By AI agents, Wed Nov 11 2026. No macro, syntax, notation, axiom, sorry.
-/
import Derived.Test.YtaogcafknbfkmaaDoorRows
import GoSem.ClaimSeven
namespace Go.Proofs.YtaogcafknbfkmaaDoor
namespace Rows

/-- THE TIED CARD OF 'parapetlaw9.PercentSets'. -/
def percentSetsCard : Claim7 := { stood := { row := percentSetsRow, standIns := [], harness := (true, "3a1f2862da1df61e695487a975d418a537ba067d124d23f795d313b16fa8d45a"), looks := false }, kinds := [], alts := [], laidByText := true, laidKinds := [.data, .pinned], laidTests := true, laidLooks := .later }
def PercentSetsCardSaid : Prop := Claim7.holds Tryd.pinned (.plain (OpenSpec.ofChange percentSetsSpec)) percentSetsCard

/-- THE TIED CARD OF 'parapetlaw9.PercentCodes'. -/
def percentCodesCard : Claim7 := { stood := { row := percentCodesRow, standIns := [], harness := (true, "3a1f2862da1df61e695487a975d418a537ba067d124d23f795d313b16fa8d45a"), looks := false }, kinds := [], alts := [], laidByText := true, laidKinds := [.data, .pinned], laidTests := true, laidLooks := .later }
def PercentCodesCardSaid : Prop := Claim7.holds Tryd.pinned (.plain (OpenSpec.ofChange percentCodesSpec)) percentCodesCard

/-- THE TIED CARD OF 'parapetlaw9.PercentUTF8'. -/
def percentUTF8Card : Claim7 := { stood := { row := percentUTF8Row, standIns := [], harness := (true, "3a1f2862da1df61e695487a975d418a537ba067d124d23f795d313b16fa8d45a"), looks := false }, kinds := [], alts := [], laidByText := true, laidKinds := [.data, .pinned], laidTests := true, laidLooks := .later }
def PercentUTF8CardSaid : Prop := Claim7.holds Tryd.pinned (.plain (OpenSpec.ofChange percentUTF8Spec)) percentUTF8Card

/-- THE TIED CARD OF 'parapetlaw9.PercentRunes'. -/
def percentRunesCard : Claim7 := { stood := { row := percentRunesRow, standIns := [], harness := (true, "3a1f2862da1df61e695487a975d418a537ba067d124d23f795d313b16fa8d45a"), looks := false }, kinds := [], alts := [], laidByText := true, laidKinds := [.data, .pinned], laidTests := true, laidLooks := .later }
def PercentRunesCardSaid : Prop := Claim7.holds Tryd.pinned (.plain (OpenSpec.ofChange percentRunesSpec)) percentRunesCard

/-- THE TIED CARD OF 'parapetlaw9.PercentBytes'. -/
def percentBytesCard : Claim7 := { stood := { row := percentBytesRow, standIns := [], harness := (true, "3a1f2862da1df61e695487a975d418a537ba067d124d23f795d313b16fa8d45a"), looks := false }, kinds := [], alts := [], laidByText := true, laidKinds := [.data, .pinned], laidTests := true, laidLooks := .later }
def PercentBytesCardSaid : Prop := Claim7.holds Tryd.pinned (.plain (OpenSpec.ofChange percentBytesSpec)) percentBytesCard

/-- THE TIED CARD OF 'parapetlaw9.PercentBack'. -/
def percentBackCard : Claim7 := { stood := { row := percentBackRow, standIns := [], harness := (true, "3a1f2862da1df61e695487a975d418a537ba067d124d23f795d313b16fa8d45a"), looks := false }, kinds := [], alts := [], laidByText := true, laidKinds := [.data, .pinned], laidTests := true, laidLooks := .later }
def PercentBackCardSaid : Prop := Claim7.holds Tryd.pinned (.plain (OpenSpec.ofChange percentBackSpec)) percentBackCard

/-- THE TIED CARD OF 'parapetlaw9.PercentSame'. -/
def percentSameCard : Claim7 := { stood := { row := percentSameRow, standIns := [], harness := (true, "3a1f2862da1df61e695487a975d418a537ba067d124d23f795d313b16fa8d45a"), looks := false }, kinds := [], alts := [], laidByText := true, laidKinds := [.data, .pinned], laidTests := true, laidLooks := .later }
def PercentSameCardSaid : Prop := Claim7.holds Tryd.pinned (.plain (OpenSpec.ofChange percentSameSpec)) percentSameCard

/-- THE SECOND FORM's CARD OF 'parapetlaw9.PercentSets'. -/
def percentSetsUptoCard : Claim7 := { stood := { row := percentSetsUptoRow, standIns := [], harness := (true, "3a1f2862da1df61e695487a975d418a537ba067d124d23f795d313b16fa8d45a"), looks := false }, kinds := [], alts := [], laidByText := true, laidKinds := [.data, .pinned], laidTests := true, laidLooks := .later }
def PercentSetsUptoCardSaid : Prop := Claim7.holds Tryd.pinned (.plain (OpenSpec.upto percentSetsSpec)) percentSetsUptoCard

/-- THE SECOND FORM's CARD OF 'parapetlaw9.PercentCodes'. -/
def percentCodesUptoCard : Claim7 := { stood := { row := percentCodesUptoRow, standIns := [], harness := (true, "3a1f2862da1df61e695487a975d418a537ba067d124d23f795d313b16fa8d45a"), looks := false }, kinds := [], alts := [], laidByText := true, laidKinds := [.data, .pinned], laidTests := true, laidLooks := .later }
def PercentCodesUptoCardSaid : Prop := Claim7.holds Tryd.pinned (.plain (OpenSpec.upto percentCodesSpec)) percentCodesUptoCard

/-- THE SECOND FORM's CARD OF 'parapetlaw9.PercentUTF8'. -/
def percentUTF8UptoCard : Claim7 := { stood := { row := percentUTF8UptoRow, standIns := [], harness := (true, "3a1f2862da1df61e695487a975d418a537ba067d124d23f795d313b16fa8d45a"), looks := false }, kinds := [], alts := [], laidByText := true, laidKinds := [.data, .pinned], laidTests := true, laidLooks := .later }
def PercentUTF8UptoCardSaid : Prop := Claim7.holds Tryd.pinned (.plain (OpenSpec.upto percentUTF8Spec)) percentUTF8UptoCard

/-- THE SECOND FORM's CARD OF 'parapetlaw9.PercentRunes'. -/
def percentRunesUptoCard : Claim7 := { stood := { row := percentRunesUptoRow, standIns := [], harness := (true, "3a1f2862da1df61e695487a975d418a537ba067d124d23f795d313b16fa8d45a"), looks := false }, kinds := [], alts := [], laidByText := true, laidKinds := [.data, .pinned], laidTests := true, laidLooks := .later }
def PercentRunesUptoCardSaid : Prop := Claim7.holds Tryd.pinned (.plain (OpenSpec.upto percentRunesSpec)) percentRunesUptoCard

/-- THE SECOND FORM's CARD OF 'parapetlaw9.PercentBytes'. -/
def percentBytesUptoCard : Claim7 := { stood := { row := percentBytesUptoRow, standIns := [], harness := (true, "3a1f2862da1df61e695487a975d418a537ba067d124d23f795d313b16fa8d45a"), looks := false }, kinds := [], alts := [], laidByText := true, laidKinds := [.data, .pinned], laidTests := true, laidLooks := .later }
def PercentBytesUptoCardSaid : Prop := Claim7.holds Tryd.pinned (.plain (OpenSpec.upto percentBytesSpec)) percentBytesUptoCard

/-- THE SECOND FORM's CARD OF 'parapetlaw9.PercentBack'. -/
def percentBackUptoCard : Claim7 := { stood := { row := percentBackUptoRow, standIns := [], harness := (true, "3a1f2862da1df61e695487a975d418a537ba067d124d23f795d313b16fa8d45a"), looks := false }, kinds := [], alts := [], laidByText := true, laidKinds := [.data, .pinned], laidTests := true, laidLooks := .later }
def PercentBackUptoCardSaid : Prop := Claim7.holds Tryd.pinned (.plain (OpenSpec.upto percentBackSpec)) percentBackUptoCard

/-- THE SECOND FORM's CARD OF 'parapetlaw9.PercentSame'. -/
def percentSameUptoCard : Claim7 := { stood := { row := percentSameUptoRow, standIns := [], harness := (true, "3a1f2862da1df61e695487a975d418a537ba067d124d23f795d313b16fa8d45a"), looks := false }, kinds := [], alts := [], laidByText := true, laidKinds := [.data, .pinned], laidTests := true, laidLooks := .later }
def PercentSameUptoCardSaid : Prop := Claim7.holds Tryd.pinned (.plain (OpenSpec.upto percentSameSpec)) percentSameUptoCard
end Rows
end Go.Proofs.YtaogcafknbfkmaaDoor
