/-
  NARROWER THAN 'FOR EVERY INPUT', by the rows' own cells (each row's printed sentence says how): PercentSets: laid · PercentCodes: laid · PercentUTF8: laid · PercentRunes: laid · PercentBytes: laid · PercentBack: laid · PercentSame: laid.
  DERIVED. THE GIVEN ROWS OF THIS SEAT. 7 by the template 'for every input the law returns true; each argument reads behind the call as it read before'; 0 by the template 'total and deterministic' (their statements: YtaogcafknbfkmaaDoorTotals.lean).
  GIVEN WITH THE SEED: the statements are not yours to turn. If you find one false, say at which input.
  Laid BY PROGRAM, IN A SANDBOX (cutbox-rows.mjs): the forced cells as the released guide's own fill.sh prints them over the translation 10db9d387bb890d2… (all of the seat's roots in one cut). By AI agents, Wed Nov 11 2026. No macro, syntax, notation, axiom, sorry.
-/
import Derived.Test.YtaogcafknbfkmaaDoorChecked
import GoSem.PinnedTables
import GoSem.Claim
import GoSem.ClaimJoined
import GoSem.ClaimMapViews
import Derived.JoinedTies
import Derived.KernelRfl
namespace Go.Proofs.YtaogcafknbfkmaaDoor
/- THE CELL 'sum', in the pinned program and in every row, IS THE sha256 OF THE DUMP (.gsa) THAT YtaogcafknbfkmaaDoorProg.lean LOADS. Nothing in Lean hashes anything: it is a label: what it is worth is what the hold of that sum in a sandbox is worth. -/
noncomputable def Tryd.pinned : Pinned := { name := "ytaogcafknbfkmaadoor", sum := "10db9d387bb890d299abdc69f0194dd443e2ab5b8fdd327616ed06cf42bdfe49", checked := Tryd.checked }
namespace Rows
def none {H : Type} : Left H := { results := [], args := [] }

/- WHAT THE LISTED PACKAGE-LEVEL VARIABLES READ AS WHEN THE CALL BEGINS. Each datum BY PROGRAM (the guide's laid-datum.mjs) off the statement by which the dump's own 'gosem.cut.vars' lays the variable. In a bare row this is a premise. The card (YtaogcafknbfkmaaDoorCards.lean) ties it to the program's text. -/
def laid_unicode_utf8_acceptRanges {H : Type} : DataW H := .agg [.agg [.lit (.int .u8 128), .lit (.int .u8 191)], .agg [.lit (.int .u8 160), .lit (.int .u8 191)], .agg [.lit (.int .u8 128), .lit (.int .u8 159)], .agg [.lit (.int .u8 144), .lit (.int .u8 191)], .agg [.lit (.int .u8 128), .lit (.int .u8 143)], .agg [.lit (.int .u8 0), .lit (.int .u8 0)], .agg [.lit (.int .u8 0), .lit (.int .u8 0)], .agg [.lit (.int .u8 0), .lit (.int .u8 0)], .agg [.lit (.int .u8 0), .lit (.int .u8 0)], .agg [.lit (.int .u8 0), .lit (.int .u8 0)], .agg [.lit (.int .u8 0), .lit (.int .u8 0)], .agg [.lit (.int .u8 0), .lit (.int .u8 0)], .agg [.lit (.int .u8 0), .lit (.int .u8 0)], .agg [.lit (.int .u8 0), .lit (.int .u8 0)], .agg [.lit (.int .u8 0), .lit (.int .u8 0)], .agg [.lit (.int .u8 0), .lit (.int .u8 0)]]
/-- One of Go's own tables, pinned by name: the form's constant. -/
def laid_unicode_utf8_first : DataW Unit := Go.Pinned.utf8First

/-- 'parapetlaw9.PercentSets': WHATEVER THE INPUT: true; the input reads as it did. -/
def percentSetsSpec : ChangeSpec := { name := "percentSets", fn := fun _ => fun
  | [d1, d2] => { results := [.lit (.bool true)], args := [d1, d2] }
  | _ => none }
def percentSetsRow : OpenClaim := { program := "ytaogcafknbfkmaadoor", sum := "10db9d387bb890d299abdc69f0194dd443e2ab5b8fdd327616ed06cf42bdfe49", func := "parapet/parapetlaw9.PercentSets", spec := "percentSets", inPlace := ["internal/bytealg.IndexByteString"], named := ["unicode/utf8.first", "unicode/utf8.acceptRanges"], apart := false, laid := [("unicode/utf8.acceptRanges", laid_unicode_utf8_acceptRanges), ("unicode/utf8.first", laid_unicode_utf8_first)] }
def PercentSetsSaid : Prop := percentSetsRow.holds Tryd.pinned (OpenSpec.ofChange percentSetsSpec)

/-- ITS FALSE NEIGHBOUR: 'it returns false'. Refute it at one input. -/
def percentSetsWrong : ChangeSpec := { name := "percentSets", fn := fun _ => fun
  | [d1, d2] => { results := [.lit (.bool false)], args := [d1, d2] }
  | _ => none }
def PercentSetsWrongFalsely : Prop := percentSetsRow.holds Tryd.pinned (OpenSpec.ofChange percentSetsWrong)

/-- 'parapetlaw9.PercentCodes': WHATEVER THE INPUT: true; the input reads as it did. -/
def percentCodesSpec : ChangeSpec := { name := "percentCodes", fn := fun _ => fun
  | [d1, d2] => { results := [.lit (.bool true)], args := [d1, d2] }
  | _ => none }
def percentCodesRow : OpenClaim := { program := "ytaogcafknbfkmaadoor", sum := "10db9d387bb890d299abdc69f0194dd443e2ab5b8fdd327616ed06cf42bdfe49", func := "parapet/parapetlaw9.PercentCodes", spec := "percentCodes", inPlace := ["internal/bytealg.IndexByteString"], named := ["unicode/utf8.first", "unicode/utf8.acceptRanges"], apart := false, laid := [("unicode/utf8.acceptRanges", laid_unicode_utf8_acceptRanges), ("unicode/utf8.first", laid_unicode_utf8_first)] }
def PercentCodesSaid : Prop := percentCodesRow.holds Tryd.pinned (OpenSpec.ofChange percentCodesSpec)

/-- ITS FALSE NEIGHBOUR: 'it returns false'. Refute it at one input. -/
def percentCodesWrong : ChangeSpec := { name := "percentCodes", fn := fun _ => fun
  | [d1, d2] => { results := [.lit (.bool false)], args := [d1, d2] }
  | _ => none }
def PercentCodesWrongFalsely : Prop := percentCodesRow.holds Tryd.pinned (OpenSpec.ofChange percentCodesWrong)

/-- 'parapetlaw9.PercentUTF8': WHATEVER THE INPUT: true; the input reads as it did. -/
def percentUTF8Spec : ChangeSpec := { name := "percentUTF8", fn := fun _ => fun
  | [d] => { results := [.lit (.bool true)], args := [d] }
  | _ => none }
def percentUTF8Row : OpenClaim := { program := "ytaogcafknbfkmaadoor", sum := "10db9d387bb890d299abdc69f0194dd443e2ab5b8fdd327616ed06cf42bdfe49", func := "parapet/parapetlaw9.PercentUTF8", spec := "percentUTF8", inPlace := ["internal/bytealg.IndexByteString"], named := ["unicode/utf8.first", "unicode/utf8.acceptRanges"], apart := false, laid := [("unicode/utf8.acceptRanges", laid_unicode_utf8_acceptRanges), ("unicode/utf8.first", laid_unicode_utf8_first)] }
def PercentUTF8Said : Prop := percentUTF8Row.holds Tryd.pinned (OpenSpec.ofChange percentUTF8Spec)

/-- ITS FALSE NEIGHBOUR: 'it returns false'. Refute it at one input. -/
def percentUTF8Wrong : ChangeSpec := { name := "percentUTF8", fn := fun _ => fun
  | [d] => { results := [.lit (.bool false)], args := [d] }
  | _ => none }
def PercentUTF8WrongFalsely : Prop := percentUTF8Row.holds Tryd.pinned (OpenSpec.ofChange percentUTF8Wrong)

/-- 'parapetlaw9.PercentRunes': WHATEVER THE INPUT: true; the input reads as it did. -/
def percentRunesSpec : ChangeSpec := { name := "percentRunes", fn := fun _ => fun
  | [d1, d2] => { results := [.lit (.bool true)], args := [d1, d2] }
  | _ => none }
def percentRunesRow : OpenClaim := { program := "ytaogcafknbfkmaadoor", sum := "10db9d387bb890d299abdc69f0194dd443e2ab5b8fdd327616ed06cf42bdfe49", func := "parapet/parapetlaw9.PercentRunes", spec := "percentRunes", inPlace := ["internal/bytealg.IndexByteString"], named := ["unicode/utf8.first", "unicode/utf8.acceptRanges"], apart := false, laid := [("unicode/utf8.acceptRanges", laid_unicode_utf8_acceptRanges), ("unicode/utf8.first", laid_unicode_utf8_first)] }
def PercentRunesSaid : Prop := percentRunesRow.holds Tryd.pinned (OpenSpec.ofChange percentRunesSpec)

/-- ITS FALSE NEIGHBOUR: 'it returns false'. Refute it at one input. -/
def percentRunesWrong : ChangeSpec := { name := "percentRunes", fn := fun _ => fun
  | [d1, d2] => { results := [.lit (.bool false)], args := [d1, d2] }
  | _ => none }
def PercentRunesWrongFalsely : Prop := percentRunesRow.holds Tryd.pinned (OpenSpec.ofChange percentRunesWrong)

/-- 'parapetlaw9.PercentBytes': WHATEVER THE INPUT: true; the input reads as it did. -/
def percentBytesSpec : ChangeSpec := { name := "percentBytes", fn := fun _ => fun
  | [d1, d2, d3] => { results := [.lit (.bool true)], args := [d1, d2, d3] }
  | _ => none }
def percentBytesRow : OpenClaim := { program := "ytaogcafknbfkmaadoor", sum := "10db9d387bb890d299abdc69f0194dd443e2ab5b8fdd327616ed06cf42bdfe49", func := "parapet/parapetlaw9.PercentBytes", spec := "percentBytes", inPlace := ["internal/bytealg.IndexByteString"], named := ["unicode/utf8.first", "unicode/utf8.acceptRanges"], apart := false, laid := [("unicode/utf8.acceptRanges", laid_unicode_utf8_acceptRanges), ("unicode/utf8.first", laid_unicode_utf8_first)] }
def PercentBytesSaid : Prop := percentBytesRow.holds Tryd.pinned (OpenSpec.ofChange percentBytesSpec)

/-- ITS FALSE NEIGHBOUR: 'it returns false'. Refute it at one input. -/
def percentBytesWrong : ChangeSpec := { name := "percentBytes", fn := fun _ => fun
  | [d1, d2, d3] => { results := [.lit (.bool false)], args := [d1, d2, d3] }
  | _ => none }
def PercentBytesWrongFalsely : Prop := percentBytesRow.holds Tryd.pinned (OpenSpec.ofChange percentBytesWrong)

/-- 'parapetlaw9.PercentBack': WHATEVER THE INPUT: true; the input reads as it did. -/
def percentBackSpec : ChangeSpec := { name := "percentBack", fn := fun _ => fun
  | [d1, d2] => { results := [.lit (.bool true)], args := [d1, d2] }
  | _ => none }
def percentBackRow : OpenClaim := { program := "ytaogcafknbfkmaadoor", sum := "10db9d387bb890d299abdc69f0194dd443e2ab5b8fdd327616ed06cf42bdfe49", func := "parapet/parapetlaw9.PercentBack", spec := "percentBack", inPlace := ["internal/bytealg.IndexByteString"], named := ["unicode/utf8.first", "unicode/utf8.acceptRanges"], apart := false, laid := [("unicode/utf8.acceptRanges", laid_unicode_utf8_acceptRanges), ("unicode/utf8.first", laid_unicode_utf8_first)] }
def PercentBackSaid : Prop := percentBackRow.holds Tryd.pinned (OpenSpec.ofChange percentBackSpec)

/-- ITS FALSE NEIGHBOUR: 'it returns false'. Refute it at one input. -/
def percentBackWrong : ChangeSpec := { name := "percentBack", fn := fun _ => fun
  | [d1, d2] => { results := [.lit (.bool false)], args := [d1, d2] }
  | _ => none }
def PercentBackWrongFalsely : Prop := percentBackRow.holds Tryd.pinned (OpenSpec.ofChange percentBackWrong)

/-- 'parapetlaw9.PercentSame': WHATEVER THE INPUT: true; the input reads as it did. -/
def percentSameSpec : ChangeSpec := { name := "percentSame", fn := fun _ => fun
  | [d1, d2] => { results := [.lit (.bool true)], args := [d1, d2] }
  | _ => none }
def percentSameRow : OpenClaim := { program := "ytaogcafknbfkmaadoor", sum := "10db9d387bb890d299abdc69f0194dd443e2ab5b8fdd327616ed06cf42bdfe49", func := "parapet/parapetlaw9.PercentSame", spec := "percentSame", inPlace := ["internal/bytealg.IndexByteString"], named := ["unicode/utf8.first", "unicode/utf8.acceptRanges"], apart := false, laid := [("unicode/utf8.acceptRanges", laid_unicode_utf8_acceptRanges), ("unicode/utf8.first", laid_unicode_utf8_first)] }
def PercentSameSaid : Prop := percentSameRow.holds Tryd.pinned (OpenSpec.ofChange percentSameSpec)

/-- ITS FALSE NEIGHBOUR: 'it returns false'. Refute it at one input. -/
def percentSameWrong : ChangeSpec := { name := "percentSame", fn := fun _ => fun
  | [d1, d2] => { results := [.lit (.bool false)], args := [d1, d2] }
  | _ => none }
def PercentSameWrongFalsely : Prop := percentSameRow.holds Tryd.pinned (OpenSpec.ofChange percentSameWrong)

/- THE SECOND FORM. 'bulk': how many values and letters a reading holds, each counted each time it is reached (what is shared counts as often as it is met; a slice's spare places count too). A statement '..UptoSaid' is the law's where the arguments, and the package variables that the reading takes, are together of bulk at most 1048576: NARROWER than '..Said'. Prove '..Said' where nothing that the law and all that it calls make is longer than what came in: it says more and counts as full. Else prove '..UptoSaid'. A law counts once. -/
mutual
def uptoBulk {H : Type} : DataW H → Nat
  | .lit (.string bytes) => bytes.length + 1
  | .lit _ => 1
  | .nil => 1
  | .ptr d => uptoBulk d + 1
  | .slice elems spare => uptoBulkAll elems + uptoBulkAll spare + 1
  | .agg parts => uptoBulkAll parts + 1
  | .iface _ d => uptoBulk d + 1
  | .map entries => uptoBulkEntries entries + 1
  | .held _ => 1
def uptoBulkAll {H : Type} : List (DataW H) → Nat
  | [] => 0
  | d :: r => uptoBulk d + uptoBulkAll r
def uptoBulkEntries {H : Type} : List (Lit × DataW H) → Nat
  | [] => 0
  | x :: r => uptoBulkEntry x + uptoBulkEntries r
def uptoBulkEntry {H : Type} : Lit × DataW H → Nat
  | (.string bytes, d) => bytes.length + uptoBulk d + 1
  | (_, d) => uptoBulk d + 1
 end
def uptoSmall : (H : Type) → List (DataW H) → Bool := fun _ ds => decide (uptoBulkAll ds ≤ 1048576)
def OpenSpec.upto (s : _root_.Go.ChangeSpec) : _root_.Go.OpenSpec := { _root_.Go.OpenSpec.ofChange s with cond := some uptoSmall }

/-- 'parapetlaw9.PercentSets', WHERE WHAT IT READS IS OF BULK AT MOST 1048576: true; the input reads as it did. -/
def percentSetsUptoRow : OpenClaim := { program := "ytaogcafknbfkmaadoor", sum := "10db9d387bb890d299abdc69f0194dd443e2ab5b8fdd327616ed06cf42bdfe49", func := "parapet/parapetlaw9.PercentSets", spec := "percentSets", inPlace := ["internal/bytealg.IndexByteString"], named := ["unicode/utf8.first", "unicode/utf8.acceptRanges"], apart := false, laid := [("unicode/utf8.acceptRanges", laid_unicode_utf8_acceptRanges), ("unicode/utf8.first", laid_unicode_utf8_first)], narrowed := true }
def PercentSetsUptoSaid : Prop := percentSetsUptoRow.holds Tryd.pinned (OpenSpec.upto percentSetsSpec)

/-- 'parapetlaw9.PercentCodes', WHERE WHAT IT READS IS OF BULK AT MOST 1048576: true; the input reads as it did. -/
def percentCodesUptoRow : OpenClaim := { program := "ytaogcafknbfkmaadoor", sum := "10db9d387bb890d299abdc69f0194dd443e2ab5b8fdd327616ed06cf42bdfe49", func := "parapet/parapetlaw9.PercentCodes", spec := "percentCodes", inPlace := ["internal/bytealg.IndexByteString"], named := ["unicode/utf8.first", "unicode/utf8.acceptRanges"], apart := false, laid := [("unicode/utf8.acceptRanges", laid_unicode_utf8_acceptRanges), ("unicode/utf8.first", laid_unicode_utf8_first)], narrowed := true }
def PercentCodesUptoSaid : Prop := percentCodesUptoRow.holds Tryd.pinned (OpenSpec.upto percentCodesSpec)

/-- 'parapetlaw9.PercentUTF8', WHERE WHAT IT READS IS OF BULK AT MOST 1048576: true; the input reads as it did. -/
def percentUTF8UptoRow : OpenClaim := { program := "ytaogcafknbfkmaadoor", sum := "10db9d387bb890d299abdc69f0194dd443e2ab5b8fdd327616ed06cf42bdfe49", func := "parapet/parapetlaw9.PercentUTF8", spec := "percentUTF8", inPlace := ["internal/bytealg.IndexByteString"], named := ["unicode/utf8.first", "unicode/utf8.acceptRanges"], apart := false, laid := [("unicode/utf8.acceptRanges", laid_unicode_utf8_acceptRanges), ("unicode/utf8.first", laid_unicode_utf8_first)], narrowed := true }
def PercentUTF8UptoSaid : Prop := percentUTF8UptoRow.holds Tryd.pinned (OpenSpec.upto percentUTF8Spec)

/-- 'parapetlaw9.PercentRunes', WHERE WHAT IT READS IS OF BULK AT MOST 1048576: true; the input reads as it did. -/
def percentRunesUptoRow : OpenClaim := { program := "ytaogcafknbfkmaadoor", sum := "10db9d387bb890d299abdc69f0194dd443e2ab5b8fdd327616ed06cf42bdfe49", func := "parapet/parapetlaw9.PercentRunes", spec := "percentRunes", inPlace := ["internal/bytealg.IndexByteString"], named := ["unicode/utf8.first", "unicode/utf8.acceptRanges"], apart := false, laid := [("unicode/utf8.acceptRanges", laid_unicode_utf8_acceptRanges), ("unicode/utf8.first", laid_unicode_utf8_first)], narrowed := true }
def PercentRunesUptoSaid : Prop := percentRunesUptoRow.holds Tryd.pinned (OpenSpec.upto percentRunesSpec)

/-- 'parapetlaw9.PercentBytes', WHERE WHAT IT READS IS OF BULK AT MOST 1048576: true; the input reads as it did. -/
def percentBytesUptoRow : OpenClaim := { program := "ytaogcafknbfkmaadoor", sum := "10db9d387bb890d299abdc69f0194dd443e2ab5b8fdd327616ed06cf42bdfe49", func := "parapet/parapetlaw9.PercentBytes", spec := "percentBytes", inPlace := ["internal/bytealg.IndexByteString"], named := ["unicode/utf8.first", "unicode/utf8.acceptRanges"], apart := false, laid := [("unicode/utf8.acceptRanges", laid_unicode_utf8_acceptRanges), ("unicode/utf8.first", laid_unicode_utf8_first)], narrowed := true }
def PercentBytesUptoSaid : Prop := percentBytesUptoRow.holds Tryd.pinned (OpenSpec.upto percentBytesSpec)

/-- 'parapetlaw9.PercentBack', WHERE WHAT IT READS IS OF BULK AT MOST 1048576: true; the input reads as it did. -/
def percentBackUptoRow : OpenClaim := { program := "ytaogcafknbfkmaadoor", sum := "10db9d387bb890d299abdc69f0194dd443e2ab5b8fdd327616ed06cf42bdfe49", func := "parapet/parapetlaw9.PercentBack", spec := "percentBack", inPlace := ["internal/bytealg.IndexByteString"], named := ["unicode/utf8.first", "unicode/utf8.acceptRanges"], apart := false, laid := [("unicode/utf8.acceptRanges", laid_unicode_utf8_acceptRanges), ("unicode/utf8.first", laid_unicode_utf8_first)], narrowed := true }
def PercentBackUptoSaid : Prop := percentBackUptoRow.holds Tryd.pinned (OpenSpec.upto percentBackSpec)

/-- 'parapetlaw9.PercentSame', WHERE WHAT IT READS IS OF BULK AT MOST 1048576: true; the input reads as it did. -/
def percentSameUptoRow : OpenClaim := { program := "ytaogcafknbfkmaadoor", sum := "10db9d387bb890d299abdc69f0194dd443e2ab5b8fdd327616ed06cf42bdfe49", func := "parapet/parapetlaw9.PercentSame", spec := "percentSame", inPlace := ["internal/bytealg.IndexByteString"], named := ["unicode/utf8.first", "unicode/utf8.acceptRanges"], apart := false, laid := [("unicode/utf8.acceptRanges", laid_unicode_utf8_acceptRanges), ("unicode/utf8.first", laid_unicode_utf8_first)], narrowed := true }
def PercentSameUptoSaid : Prop := percentSameUptoRow.holds Tryd.pinned (OpenSpec.upto percentSameSpec)

end Rows
end Go.Proofs.YtaogcafknbfkmaaDoor
