/-
  NARROWER THAN 'FOR EVERY INPUT', by the rows' own cells (each row's printed sentence says how): SoundAtoms: laid · SoundRead: laid · SoundMany: laid · SoundShares: laid.
  DERIVED. THE GIVEN ROWS OF THIS SEAT. 4 by the template 'for every input the law returns true; each argument reads behind the call as it read before'; 0 by the template 'total and deterministic' (their statements: YtdlahgamdigkhaaDoorTotals.lean).
  GIVEN WITH THE SEED: the statements are not yours to turn. If you find one false, say at which input.
  Laid BY PROGRAM, IN A SANDBOX (cutbox-rows.mjs): the forced cells as the released guide's own fill.sh prints them over the translation aee823fdf0871a12… (all of the seat's roots in one cut). By AI agents, Wed Nov 11 2026. No macro, syntax, notation, axiom, sorry.
-/
import Derived.Test.YtdlahgamdigkhaaDoorChecked
import GoSem.PinnedTables
import GoSem.Claim
import GoSem.ClaimJoined
import GoSem.ClaimMapViews
import Derived.JoinedTies
import Derived.KernelRfl
namespace Go.Proofs.YtdlahgamdigkhaaDoor
/- THE CELL 'sum', in the pinned program and in every row, IS THE sha256 OF THE DUMP (.gsa) THAT YtdlahgamdigkhaaDoorProg.lean LOADS. Nothing in Lean hashes anything: it is a label: what it is worth is what the hold of that sum in a sandbox is worth. -/
noncomputable def Tryd.pinned : Pinned := { name := "ytdlahgamdigkhaadoor", sum := "aee823fdf0871a12c81b0dc7d654ab7dc1f0f7548ad06970af9f122012dfa1e5", checked := Tryd.checked }
namespace Rows
def none {H : Type} : Left H := { results := [], args := [] }

/- WHAT THE LISTED PACKAGE-LEVEL VARIABLES READ AS WHEN THE CALL BEGINS. Each datum BY PROGRAM (the guide's laid-datum.mjs) off the statement by which the dump's own 'gosem.cut.vars' lays the variable. In a bare row this is a premise. The card (YtdlahgamdigkhaaDoorCards.lean) ties it to the program's text. -/
def laid_unicode_utf8_acceptRanges {H : Type} : DataW H := .agg [.agg [.lit (.int .u8 128), .lit (.int .u8 191)], .agg [.lit (.int .u8 160), .lit (.int .u8 191)], .agg [.lit (.int .u8 128), .lit (.int .u8 159)], .agg [.lit (.int .u8 144), .lit (.int .u8 191)], .agg [.lit (.int .u8 128), .lit (.int .u8 143)], .agg [.lit (.int .u8 0), .lit (.int .u8 0)], .agg [.lit (.int .u8 0), .lit (.int .u8 0)], .agg [.lit (.int .u8 0), .lit (.int .u8 0)], .agg [.lit (.int .u8 0), .lit (.int .u8 0)], .agg [.lit (.int .u8 0), .lit (.int .u8 0)], .agg [.lit (.int .u8 0), .lit (.int .u8 0)], .agg [.lit (.int .u8 0), .lit (.int .u8 0)], .agg [.lit (.int .u8 0), .lit (.int .u8 0)], .agg [.lit (.int .u8 0), .lit (.int .u8 0)], .agg [.lit (.int .u8 0), .lit (.int .u8 0)], .agg [.lit (.int .u8 0), .lit (.int .u8 0)]]
/-- One of Go's own tables, pinned by name: the form's constant. -/
def laid_unicode_utf8_first : DataW Unit := Go.Pinned.utf8First

/-- 'parapetlaw21.SoundAtoms': WHATEVER THE INPUT: true; the input reads as it did. -/
def soundAtomsSpec : ChangeSpec := { name := "soundAtoms", fn := fun _ => fun
  | [d] => { results := [.lit (.bool true)], args := [d] }
  | _ => none }
def soundAtomsRow : OpenClaim := { program := "ytdlahgamdigkhaadoor", sum := "aee823fdf0871a12c81b0dc7d654ab7dc1f0f7548ad06970af9f122012dfa1e5", func := "parapet/parapetlaw21.SoundAtoms", spec := "soundAtoms", inPlace := ["internal/bytealg.IndexByteString", "internal/bytealg.IndexString", "internal/bytealg.CountString"], unfollowed := true, recurses := true, named := ["internal/bytealg.MaxLen", "unicode/utf8.first", "unicode/utf8.acceptRanges"], plainKeys := false, apart := false, laid := [("unicode/utf8.acceptRanges", laid_unicode_utf8_acceptRanges), ("unicode/utf8.first", laid_unicode_utf8_first)] }
def SoundAtomsSaid : Prop := soundAtomsRow.holds Tryd.pinned (OpenSpec.ofChange soundAtomsSpec)

/-- ITS FALSE NEIGHBOUR: 'it returns false'. Refute it at one input. -/
def soundAtomsWrong : ChangeSpec := { name := "soundAtoms", fn := fun _ => fun
  | [d] => { results := [.lit (.bool false)], args := [d] }
  | _ => none }
def SoundAtomsWrongFalsely : Prop := soundAtomsRow.holds Tryd.pinned (OpenSpec.ofChange soundAtomsWrong)

/-- 'parapetlaw21.SoundRead': WHATEVER THE INPUT: true; the input reads as it did. -/
def soundReadSpec : ChangeSpec := { name := "soundRead", fn := fun _ => fun
  | [d] => { results := [.lit (.bool true)], args := [d] }
  | _ => none }
def soundReadRow : OpenClaim := { program := "ytdlahgamdigkhaadoor", sum := "aee823fdf0871a12c81b0dc7d654ab7dc1f0f7548ad06970af9f122012dfa1e5", func := "parapet/parapetlaw21.SoundRead", spec := "soundRead", inPlace := ["internal/bytealg.IndexByteString", "internal/bytealg.IndexString", "internal/bytealg.CountString"], unfollowed := true, recurses := true, named := ["internal/bytealg.MaxLen", "unicode/utf8.first", "unicode/utf8.acceptRanges"], plainKeys := false, apart := false, laid := [("unicode/utf8.acceptRanges", laid_unicode_utf8_acceptRanges), ("unicode/utf8.first", laid_unicode_utf8_first)] }
def SoundReadSaid : Prop := soundReadRow.holds Tryd.pinned (OpenSpec.ofChange soundReadSpec)

/-- ITS FALSE NEIGHBOUR: 'it returns false'. Refute it at one input. -/
def soundReadWrong : ChangeSpec := { name := "soundRead", fn := fun _ => fun
  | [d] => { results := [.lit (.bool false)], args := [d] }
  | _ => none }
def SoundReadWrongFalsely : Prop := soundReadRow.holds Tryd.pinned (OpenSpec.ofChange soundReadWrong)

/-- 'parapetlaw21.SoundMany': WHATEVER THE INPUT: true; the input reads as it did. -/
def soundManySpec : ChangeSpec := { name := "soundMany", fn := fun _ => fun
  | [d1, d2] => { results := [.lit (.bool true)], args := [d1, d2] }
  | _ => none }
def soundManyRow : OpenClaim := { program := "ytdlahgamdigkhaadoor", sum := "aee823fdf0871a12c81b0dc7d654ab7dc1f0f7548ad06970af9f122012dfa1e5", func := "parapet/parapetlaw21.SoundMany", spec := "soundMany", inPlace := ["internal/bytealg.IndexByteString", "internal/bytealg.IndexString", "internal/bytealg.CountString"], unfollowed := true, recurses := true, named := ["internal/bytealg.MaxLen", "unicode/utf8.first", "unicode/utf8.acceptRanges"], plainKeys := false, apart := false, laid := [("unicode/utf8.acceptRanges", laid_unicode_utf8_acceptRanges), ("unicode/utf8.first", laid_unicode_utf8_first)] }
def SoundManySaid : Prop := soundManyRow.holds Tryd.pinned (OpenSpec.ofChange soundManySpec)

/-- ITS FALSE NEIGHBOUR: 'it returns false'. Refute it at one input. -/
def soundManyWrong : ChangeSpec := { name := "soundMany", fn := fun _ => fun
  | [d1, d2] => { results := [.lit (.bool false)], args := [d1, d2] }
  | _ => none }
def SoundManyWrongFalsely : Prop := soundManyRow.holds Tryd.pinned (OpenSpec.ofChange soundManyWrong)

/-- 'parapetlaw21.SoundShares': WHATEVER THE INPUT: true; the input reads as it did. -/
def soundSharesSpec : ChangeSpec := { name := "soundShares", fn := fun _ => fun
  | [d1, d2, d3, d4] => { results := [.lit (.bool true)], args := [d1, d2, d3, d4] }
  | _ => none }
def soundSharesRow : OpenClaim := { program := "ytdlahgamdigkhaadoor", sum := "aee823fdf0871a12c81b0dc7d654ab7dc1f0f7548ad06970af9f122012dfa1e5", func := "parapet/parapetlaw21.SoundShares", spec := "soundShares", inPlace := ["internal/bytealg.IndexByteString", "internal/bytealg.IndexString", "internal/bytealg.CountString"], unfollowed := true, recurses := true, named := ["internal/bytealg.MaxLen", "unicode/utf8.first", "unicode/utf8.acceptRanges"], plainKeys := false, apart := false, laid := [("unicode/utf8.acceptRanges", laid_unicode_utf8_acceptRanges), ("unicode/utf8.first", laid_unicode_utf8_first)] }
def SoundSharesSaid : Prop := soundSharesRow.holds Tryd.pinned (OpenSpec.ofChange soundSharesSpec)

/-- ITS FALSE NEIGHBOUR: 'it returns false'. Refute it at one input. -/
def soundSharesWrong : ChangeSpec := { name := "soundShares", fn := fun _ => fun
  | [d1, d2, d3, d4] => { results := [.lit (.bool false)], args := [d1, d2, d3, d4] }
  | _ => none }
def SoundSharesWrongFalsely : Prop := soundSharesRow.holds Tryd.pinned (OpenSpec.ofChange soundSharesWrong)

/- THE SECOND FORM. 'bulk': how many values and letters a reading holds, each counted each time it is reached (what is shared counts as often as it is met; a slice's spare places count too). A statement '..UptoSaid' is the law's where the arguments, and the package variables that the reading takes, are together of bulk at most 1048576: NARROWER than '..Said'. Prove '..Said' where nothing that the law and all that it calls make is longer than what came in: it says more and counts as full. Else prove '..UptoSaid'. A law counts once. -/
mutual
def uptoBulk {H : Type} : DataW H → Nat
  | .lit (.string bytes) => bytes.length + 1
  | .lit _ => 1
  | .nil => 1
  | .ptr d => uptoBulk d + 1
  | .slice elems spare => uptoBulkAll elems + uptoBulkAll spare + 1
  | .agg parts => uptoBulkAll parts + 1
  | .iface _ d => uptoBulk d + 1
  | .map entries => uptoBulkEntries entries + 1
  | .held _ => 1
def uptoBulkAll {H : Type} : List (DataW H) → Nat
  | [] => 0
  | d :: r => uptoBulk d + uptoBulkAll r
def uptoBulkEntries {H : Type} : List (Lit × DataW H) → Nat
  | [] => 0
  | x :: r => uptoBulkEntry x + uptoBulkEntries r
def uptoBulkEntry {H : Type} : Lit × DataW H → Nat
  | (.string bytes, d) => bytes.length + uptoBulk d + 1
  | (_, d) => uptoBulk d + 1
 end
def uptoSmall : (H : Type) → List (DataW H) → Bool := fun _ ds => decide (uptoBulkAll ds ≤ 1048576)
def OpenSpec.upto (s : _root_.Go.ChangeSpec) : _root_.Go.OpenSpec := { _root_.Go.OpenSpec.ofChange s with cond := some uptoSmall }

/-- 'parapetlaw21.SoundAtoms', WHERE WHAT IT READS IS OF BULK AT MOST 1048576: true; the input reads as it did. -/
def soundAtomsUptoRow : OpenClaim := { program := "ytdlahgamdigkhaadoor", sum := "aee823fdf0871a12c81b0dc7d654ab7dc1f0f7548ad06970af9f122012dfa1e5", func := "parapet/parapetlaw21.SoundAtoms", spec := "soundAtoms", inPlace := ["internal/bytealg.IndexByteString", "internal/bytealg.IndexString", "internal/bytealg.CountString"], unfollowed := true, recurses := true, named := ["internal/bytealg.MaxLen", "unicode/utf8.first", "unicode/utf8.acceptRanges"], plainKeys := false, apart := false, laid := [("unicode/utf8.acceptRanges", laid_unicode_utf8_acceptRanges), ("unicode/utf8.first", laid_unicode_utf8_first)], narrowed := true }
def SoundAtomsUptoSaid : Prop := soundAtomsUptoRow.holds Tryd.pinned (OpenSpec.upto soundAtomsSpec)

/-- 'parapetlaw21.SoundRead', WHERE WHAT IT READS IS OF BULK AT MOST 1048576: true; the input reads as it did. -/
def soundReadUptoRow : OpenClaim := { program := "ytdlahgamdigkhaadoor", sum := "aee823fdf0871a12c81b0dc7d654ab7dc1f0f7548ad06970af9f122012dfa1e5", func := "parapet/parapetlaw21.SoundRead", spec := "soundRead", inPlace := ["internal/bytealg.IndexByteString", "internal/bytealg.IndexString", "internal/bytealg.CountString"], unfollowed := true, recurses := true, named := ["internal/bytealg.MaxLen", "unicode/utf8.first", "unicode/utf8.acceptRanges"], plainKeys := false, apart := false, laid := [("unicode/utf8.acceptRanges", laid_unicode_utf8_acceptRanges), ("unicode/utf8.first", laid_unicode_utf8_first)], narrowed := true }
def SoundReadUptoSaid : Prop := soundReadUptoRow.holds Tryd.pinned (OpenSpec.upto soundReadSpec)

/-- 'parapetlaw21.SoundMany', WHERE WHAT IT READS IS OF BULK AT MOST 1048576: true; the input reads as it did. -/
def soundManyUptoRow : OpenClaim := { program := "ytdlahgamdigkhaadoor", sum := "aee823fdf0871a12c81b0dc7d654ab7dc1f0f7548ad06970af9f122012dfa1e5", func := "parapet/parapetlaw21.SoundMany", spec := "soundMany", inPlace := ["internal/bytealg.IndexByteString", "internal/bytealg.IndexString", "internal/bytealg.CountString"], unfollowed := true, recurses := true, named := ["internal/bytealg.MaxLen", "unicode/utf8.first", "unicode/utf8.acceptRanges"], plainKeys := false, apart := false, laid := [("unicode/utf8.acceptRanges", laid_unicode_utf8_acceptRanges), ("unicode/utf8.first", laid_unicode_utf8_first)], narrowed := true }
def SoundManyUptoSaid : Prop := soundManyUptoRow.holds Tryd.pinned (OpenSpec.upto soundManySpec)

/-- 'parapetlaw21.SoundShares', WHERE WHAT IT READS IS OF BULK AT MOST 1048576: true; the input reads as it did. -/
def soundSharesUptoRow : OpenClaim := { program := "ytdlahgamdigkhaadoor", sum := "aee823fdf0871a12c81b0dc7d654ab7dc1f0f7548ad06970af9f122012dfa1e5", func := "parapet/parapetlaw21.SoundShares", spec := "soundShares", inPlace := ["internal/bytealg.IndexByteString", "internal/bytealg.IndexString", "internal/bytealg.CountString"], unfollowed := true, recurses := true, named := ["internal/bytealg.MaxLen", "unicode/utf8.first", "unicode/utf8.acceptRanges"], plainKeys := false, apart := false, laid := [("unicode/utf8.acceptRanges", laid_unicode_utf8_acceptRanges), ("unicode/utf8.first", laid_unicode_utf8_first)], narrowed := true }
def SoundSharesUptoSaid : Prop := soundSharesUptoRow.holds Tryd.pinned (OpenSpec.upto soundSharesSpec)

end Rows
end Go.Proofs.YtdlahgamdigkhaaDoor
