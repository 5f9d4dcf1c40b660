/-
  DERIVED. GIVEN WITH THE SEED: THE CARDS: each row of YtdlahgamdigkhaaDoorRows.lean that lists a variable, with what it lists TIED to the program's text (the seventh form; the later family's looks); each row that meets fmt, with fmt's text TOLD by the authors' own Lean function (tested against real Go, not proved from fmt's source: count such statements apart). THE CARD IS WHAT COUNTS. Prove the row's statement (the work); the ties are given (YtdlahgamdigkhaaDoorTie.lean); close each card by the builder's one call (the guide's Derived/Test/ToyasCard.lean, 'card_holds'). Laid BY PROGRAM, IN A SANDBOX (cutbox-door.mjs). By AI agents, Wed Nov 11 2026. No macro, syntax, notation, axiom, sorry.
-/
import Derived.Test.YtdlahgamdigkhaaDoorRows
import GoSem.ClaimSeven
namespace Go.Proofs.YtdlahgamdigkhaaDoor
namespace Rows

/-- THE TIED CARD OF 'parapetlaw21.SoundAtoms'. -/
def soundAtomsCard : Claim7 := { stood := { row := soundAtomsRow, standIns := [], harness := (true, "331e709b3f7ded4a11803811173e993bcce48a01896d46c460e02b0fa7979953"), looks := false }, kinds := [], alts := [], laidByText := true, laidKinds := [.data, .pinned], laidTests := true, laidLooks := .later }
def SoundAtomsCardSaid : Prop := Claim7.holds Tryd.pinned (.plain (OpenSpec.ofChange soundAtomsSpec)) soundAtomsCard

/-- THE TIED CARD OF 'parapetlaw21.SoundRead'. -/
def soundReadCard : Claim7 := { stood := { row := soundReadRow, standIns := [], harness := (true, "331e709b3f7ded4a11803811173e993bcce48a01896d46c460e02b0fa7979953"), looks := false }, kinds := [], alts := [], laidByText := true, laidKinds := [.data, .pinned], laidTests := true, laidLooks := .later }
def SoundReadCardSaid : Prop := Claim7.holds Tryd.pinned (.plain (OpenSpec.ofChange soundReadSpec)) soundReadCard

/-- THE TIED CARD OF 'parapetlaw21.SoundMany'. -/
def soundManyCard : Claim7 := { stood := { row := soundManyRow, standIns := [], harness := (true, "331e709b3f7ded4a11803811173e993bcce48a01896d46c460e02b0fa7979953"), looks := false }, kinds := [], alts := [], laidByText := true, laidKinds := [.data, .pinned], laidTests := true, laidLooks := .later }
def SoundManyCardSaid : Prop := Claim7.holds Tryd.pinned (.plain (OpenSpec.ofChange soundManySpec)) soundManyCard

/-- THE TIED CARD OF 'parapetlaw21.SoundShares'. -/
def soundSharesCard : Claim7 := { stood := { row := soundSharesRow, standIns := [], harness := (true, "331e709b3f7ded4a11803811173e993bcce48a01896d46c460e02b0fa7979953"), looks := false }, kinds := [], alts := [], laidByText := true, laidKinds := [.data, .pinned], laidTests := true, laidLooks := .later }
def SoundSharesCardSaid : Prop := Claim7.holds Tryd.pinned (.plain (OpenSpec.ofChange soundSharesSpec)) soundSharesCard

/-- THE SECOND FORM's CARD OF 'parapetlaw21.SoundAtoms'. -/
def soundAtomsUptoCard : Claim7 := { stood := { row := soundAtomsUptoRow, standIns := [], harness := (true, "331e709b3f7ded4a11803811173e993bcce48a01896d46c460e02b0fa7979953"), looks := false }, kinds := [], alts := [], laidByText := true, laidKinds := [.data, .pinned], laidTests := true, laidLooks := .later }
def SoundAtomsUptoCardSaid : Prop := Claim7.holds Tryd.pinned (.plain (OpenSpec.upto soundAtomsSpec)) soundAtomsUptoCard

/-- THE SECOND FORM's CARD OF 'parapetlaw21.SoundRead'. -/
def soundReadUptoCard : Claim7 := { stood := { row := soundReadUptoRow, standIns := [], harness := (true, "331e709b3f7ded4a11803811173e993bcce48a01896d46c460e02b0fa7979953"), looks := false }, kinds := [], alts := [], laidByText := true, laidKinds := [.data, .pinned], laidTests := true, laidLooks := .later }
def SoundReadUptoCardSaid : Prop := Claim7.holds Tryd.pinned (.plain (OpenSpec.upto soundReadSpec)) soundReadUptoCard

/-- THE SECOND FORM's CARD OF 'parapetlaw21.SoundMany'. -/
def soundManyUptoCard : Claim7 := { stood := { row := soundManyUptoRow, standIns := [], harness := (true, "331e709b3f7ded4a11803811173e993bcce48a01896d46c460e02b0fa7979953"), looks := false }, kinds := [], alts := [], laidByText := true, laidKinds := [.data, .pinned], laidTests := true, laidLooks := .later }
def SoundManyUptoCardSaid : Prop := Claim7.holds Tryd.pinned (.plain (OpenSpec.upto soundManySpec)) soundManyUptoCard

/-- THE SECOND FORM's CARD OF 'parapetlaw21.SoundShares'. -/
def soundSharesUptoCard : Claim7 := { stood := { row := soundSharesUptoRow, standIns := [], harness := (true, "331e709b3f7ded4a11803811173e993bcce48a01896d46c460e02b0fa7979953"), looks := false }, kinds := [], alts := [], laidByText := true, laidKinds := [.data, .pinned], laidTests := true, laidLooks := .later }
def SoundSharesUptoCardSaid : Prop := Claim7.holds Tryd.pinned (.plain (OpenSpec.upto soundSharesSpec)) soundSharesUptoCard
end Rows
end Go.Proofs.YtdlahgamdigkhaaDoor
