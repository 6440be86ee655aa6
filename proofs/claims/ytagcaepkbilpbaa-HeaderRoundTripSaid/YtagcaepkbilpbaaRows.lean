/-
  No cell of these rows narrows 'for every input' (looked for: loops, veiled, ifaces, maps, wideKeys, modest, calm, conditions, laid).
  DERIVED. THE GIVEN ROWS OF THIS SEAT. 7 by the template 'for every input the law returns true; each argument reads behind the call as it read before'; 0 by the template 'total and deterministic' (their statements: YtagcaepkbilpbaaTotals.lean).
  GIVEN WITH THE SEED: the statements are not yours to turn. If you find one false, say at which input.
  Laid BY PROGRAM, IN A SANDBOX (cutbox-rows.mjs): the forced cells as the released guide's own fill.sh prints them over the translation bf6250cd0cccc5ad… (all of the seat's roots in one cut). By AI agents, Wed Nov 11 2026. No macro, syntax, notation, axiom, sorry.
-/
import Derived.Test.YtagcaepkbilpbaaChecked
import GoSem.Claim
import GoSem.ClaimJoined
import GoSem.ClaimMapViews
import Derived.JoinedTies
import Derived.KernelRfl
namespace Go.Proofs.Ytagcaepkbilpbaa
/- THE CELL 'sum', in the pinned program and in every row, IS THE sha256 OF THE DUMP (.gsa) THAT YtagcaepkbilpbaaProg.lean LOADS. Nothing in Lean hashes anything: it is a label: what it is worth is what the hold of that sum in a sandbox is worth. -/
noncomputable def Try.pinned : Pinned := { name := "ytagcaepkbilpbaa", sum := "bf6250cd0cccc5ad005be20ddac605f91475006a65e927e4ca36bb74a49c947d", checked := Try.checked }
namespace Rows
def none {H : Type} : Left H := { results := [], args := [] }

/-- 'drumlinlaw13.HeaderChecks': WHATEVER THE INPUT: true; the input reads as it did. -/
def headerChecksSpec : ChangeSpec := { name := "headerChecks", fn := fun _ => fun
  | [d] => { results := [.lit (.bool true)], args := [d] }
  | _ => none }
def headerChecksRow : OpenClaim := { program := "ytagcaepkbilpbaa", sum := "bf6250cd0cccc5ad005be20ddac605f91475006a65e927e4ca36bb74a49c947d", func := "drumlin/drumlinlaw13.HeaderChecks", spec := "headerChecks", apart := false }
def HeaderChecksSaid : Prop := headerChecksRow.holds Try.pinned (OpenSpec.ofChange headerChecksSpec)

/-- ITS FALSE NEIGHBOUR: 'it returns false'. Refute it at one input. -/
def headerChecksWrong : ChangeSpec := { name := "headerChecks", fn := fun _ => fun
  | [d] => { results := [.lit (.bool false)], args := [d] }
  | _ => none }
def HeaderChecksWrongFalsely : Prop := headerChecksRow.holds Try.pinned (OpenSpec.ofChange headerChecksWrong)

/-- 'drumlinlaw13.HeaderDecodes': WHATEVER THE INPUT: true; the input reads as it did. -/
def headerDecodesSpec : ChangeSpec := { name := "headerDecodes", fn := fun _ => fun
  | [d] => { results := [.lit (.bool true)], args := [d] }
  | _ => none }
def headerDecodesRow : OpenClaim := { program := "ytagcaepkbilpbaa", sum := "bf6250cd0cccc5ad005be20ddac605f91475006a65e927e4ca36bb74a49c947d", func := "drumlin/drumlinlaw13.HeaderDecodes", spec := "headerDecodes", apart := false }
def HeaderDecodesSaid : Prop := headerDecodesRow.holds Try.pinned (OpenSpec.ofChange headerDecodesSpec)

/-- ITS FALSE NEIGHBOUR: 'it returns false'. Refute it at one input. -/
def headerDecodesWrong : ChangeSpec := { name := "headerDecodes", fn := fun _ => fun
  | [d] => { results := [.lit (.bool false)], args := [d] }
  | _ => none }
def HeaderDecodesWrongFalsely : Prop := headerDecodesRow.holds Try.pinned (OpenSpec.ofChange headerDecodesWrong)

/-- 'drumlinlaw13.HeaderBytes': WHATEVER THE INPUT: true; the input reads as it did. -/
def headerBytesSpec : ChangeSpec := { name := "headerBytes", fn := fun _ => fun
  | [d1, d2, d3, d4, d5] => { results := [.lit (.bool true)], args := [d1, d2, d3, d4, d5] }
  | _ => none }
def headerBytesRow : OpenClaim := { program := "ytagcaepkbilpbaa", sum := "bf6250cd0cccc5ad005be20ddac605f91475006a65e927e4ca36bb74a49c947d", func := "drumlin/drumlinlaw13.HeaderBytes", spec := "headerBytes", apart := false }
def HeaderBytesSaid : Prop := headerBytesRow.holds Try.pinned (OpenSpec.ofChange headerBytesSpec)

/-- ITS FALSE NEIGHBOUR: 'it returns false'. Refute it at one input. -/
def headerBytesWrong : ChangeSpec := { name := "headerBytes", fn := fun _ => fun
  | [d1, d2, d3, d4, d5] => { results := [.lit (.bool false)], args := [d1, d2, d3, d4, d5] }
  | _ => none }
def HeaderBytesWrongFalsely : Prop := headerBytesRow.holds Try.pinned (OpenSpec.ofChange headerBytesWrong)

/-- 'drumlinlaw13.HeaderReads': WHATEVER THE INPUT: true; the input reads as it did. -/
def headerReadsSpec : ChangeSpec := { name := "headerReads", fn := fun _ => fun
  | [d] => { results := [.lit (.bool true)], args := [d] }
  | _ => none }
def headerReadsRow : OpenClaim := { program := "ytagcaepkbilpbaa", sum := "bf6250cd0cccc5ad005be20ddac605f91475006a65e927e4ca36bb74a49c947d", func := "drumlin/drumlinlaw13.HeaderReads", spec := "headerReads", apart := false }
def HeaderReadsSaid : Prop := headerReadsRow.holds Try.pinned (OpenSpec.ofChange headerReadsSpec)

/-- ITS FALSE NEIGHBOUR: 'it returns false'. Refute it at one input. -/
def headerReadsWrong : ChangeSpec := { name := "headerReads", fn := fun _ => fun
  | [d] => { results := [.lit (.bool false)], args := [d] }
  | _ => none }
def HeaderReadsWrongFalsely : Prop := headerReadsRow.holds Try.pinned (OpenSpec.ofChange headerReadsWrong)

/-- 'drumlinlaw13.HeaderSums': WHATEVER THE INPUT: true; the input reads as it did. -/
def headerSumsSpec : ChangeSpec := { name := "headerSums", fn := fun _ => fun
  | [d1, d2, d3, d4, d5, d6] => { results := [.lit (.bool true)], args := [d1, d2, d3, d4, d5, d6] }
  | _ => none }
def headerSumsRow : OpenClaim := { program := "ytagcaepkbilpbaa", sum := "bf6250cd0cccc5ad005be20ddac605f91475006a65e927e4ca36bb74a49c947d", func := "drumlin/drumlinlaw13.HeaderSums", spec := "headerSums", apart := false }
def HeaderSumsSaid : Prop := headerSumsRow.holds Try.pinned (OpenSpec.ofChange headerSumsSpec)

/-- ITS FALSE NEIGHBOUR: 'it returns false'. Refute it at one input. -/
def headerSumsWrong : ChangeSpec := { name := "headerSums", fn := fun _ => fun
  | [d1, d2, d3, d4, d5, d6] => { results := [.lit (.bool false)], args := [d1, d2, d3, d4, d5, d6] }
  | _ => none }
def HeaderSumsWrongFalsely : Prop := headerSumsRow.holds Try.pinned (OpenSpec.ofChange headerSumsWrong)

/-- 'drumlinlaw13.HeaderRefuses': WHATEVER THE INPUT: true; the input reads as it did. -/
def headerRefusesSpec : ChangeSpec := { name := "headerRefuses", fn := fun _ => fun
  | [d1, d2, d3, d4, d5, d6, d7] => { results := [.lit (.bool true)], args := [d1, d2, d3, d4, d5, d6, d7] }
  | _ => none }
def headerRefusesRow : OpenClaim := { program := "ytagcaepkbilpbaa", sum := "bf6250cd0cccc5ad005be20ddac605f91475006a65e927e4ca36bb74a49c947d", func := "drumlin/drumlinlaw13.HeaderRefuses", spec := "headerRefuses", apart := false }
def HeaderRefusesSaid : Prop := headerRefusesRow.holds Try.pinned (OpenSpec.ofChange headerRefusesSpec)

/-- ITS FALSE NEIGHBOUR: 'it returns false'. Refute it at one input. -/
def headerRefusesWrong : ChangeSpec := { name := "headerRefuses", fn := fun _ => fun
  | [d1, d2, d3, d4, d5, d6, d7] => { results := [.lit (.bool false)], args := [d1, d2, d3, d4, d5, d6, d7] }
  | _ => none }
def HeaderRefusesWrongFalsely : Prop := headerRefusesRow.holds Try.pinned (OpenSpec.ofChange headerRefusesWrong)

/-- 'drumlinlaw13.HeaderRoundTrip': WHATEVER THE INPUT: true; the input reads as it did. -/
def headerRoundTripSpec : ChangeSpec := { name := "headerRoundTrip", fn := fun _ => fun
  | [d1, d2, d3, d4, d5, d6] => { results := [.lit (.bool true)], args := [d1, d2, d3, d4, d5, d6] }
  | _ => none }
def headerRoundTripRow : OpenClaim := { program := "ytagcaepkbilpbaa", sum := "bf6250cd0cccc5ad005be20ddac605f91475006a65e927e4ca36bb74a49c947d", func := "drumlin/drumlinlaw13.HeaderRoundTrip", spec := "headerRoundTrip", apart := false }
def HeaderRoundTripSaid : Prop := headerRoundTripRow.holds Try.pinned (OpenSpec.ofChange headerRoundTripSpec)

/-- ITS FALSE NEIGHBOUR: 'it returns false'. Refute it at one input. -/
def headerRoundTripWrong : ChangeSpec := { name := "headerRoundTrip", fn := fun _ => fun
  | [d1, d2, d3, d4, d5, d6] => { results := [.lit (.bool false)], args := [d1, d2, d3, d4, d5, d6] }
  | _ => none }
def HeaderRoundTripWrongFalsely : Prop := headerRoundTripRow.holds Try.pinned (OpenSpec.ofChange headerRoundTripWrong)

/- THE SECOND FORM. 'bulk': how many values and letters a reading holds, each counted each time it is reached (what is shared counts as often as it is met; a slice's spare places count too). A statement '..UptoSaid' is the law's where the arguments, and the package variables that the reading takes, are together of bulk at most 1048576: NARROWER than '..Said'. Prove '..Said' where nothing that the law and all that it calls make is longer than what came in: it says more and counts as full. Else prove '..UptoSaid'. A law counts once. -/
mutual
def uptoBulk {H : Type} : DataW H → Nat
  | .lit (.string bytes) => bytes.length + 1
  | .lit _ => 1
  | .nil => 1
  | .ptr d => uptoBulk d + 1
  | .slice elems spare => uptoBulkAll elems + uptoBulkAll spare + 1
  | .agg parts => uptoBulkAll parts + 1
  | .iface _ d => uptoBulk d + 1
  | .map entries => uptoBulkEntries entries + 1
  | .held _ => 1
def uptoBulkAll {H : Type} : List (DataW H) → Nat
  | [] => 0
  | d :: r => uptoBulk d + uptoBulkAll r
def uptoBulkEntries {H : Type} : List (Lit × DataW H) → Nat
  | [] => 0
  | x :: r => uptoBulkEntry x + uptoBulkEntries r
def uptoBulkEntry {H : Type} : Lit × DataW H → Nat
  | (.string bytes, d) => bytes.length + uptoBulk d + 1
  | (_, d) => uptoBulk d + 1
 end
def uptoSmall : (H : Type) → List (DataW H) → Bool := fun _ ds => decide (uptoBulkAll ds ≤ 1048576)
def OpenSpec.upto (s : _root_.Go.ChangeSpec) : _root_.Go.OpenSpec := { _root_.Go.OpenSpec.ofChange s with cond := some uptoSmall }

/-- 'drumlinlaw13.HeaderChecks', WHERE WHAT IT READS IS OF BULK AT MOST 1048576: true; the input reads as it did. -/
def headerChecksUptoRow : OpenClaim := { program := "ytagcaepkbilpbaa", sum := "bf6250cd0cccc5ad005be20ddac605f91475006a65e927e4ca36bb74a49c947d", func := "drumlin/drumlinlaw13.HeaderChecks", spec := "headerChecks", apart := false, narrowed := true }
def HeaderChecksUptoSaid : Prop := headerChecksUptoRow.holds Try.pinned (OpenSpec.upto headerChecksSpec)

/-- 'drumlinlaw13.HeaderDecodes', WHERE WHAT IT READS IS OF BULK AT MOST 1048576: true; the input reads as it did. -/
def headerDecodesUptoRow : OpenClaim := { program := "ytagcaepkbilpbaa", sum := "bf6250cd0cccc5ad005be20ddac605f91475006a65e927e4ca36bb74a49c947d", func := "drumlin/drumlinlaw13.HeaderDecodes", spec := "headerDecodes", apart := false, narrowed := true }
def HeaderDecodesUptoSaid : Prop := headerDecodesUptoRow.holds Try.pinned (OpenSpec.upto headerDecodesSpec)

/-- 'drumlinlaw13.HeaderBytes', WHERE WHAT IT READS IS OF BULK AT MOST 1048576: true; the input reads as it did. -/
def headerBytesUptoRow : OpenClaim := { program := "ytagcaepkbilpbaa", sum := "bf6250cd0cccc5ad005be20ddac605f91475006a65e927e4ca36bb74a49c947d", func := "drumlin/drumlinlaw13.HeaderBytes", spec := "headerBytes", apart := false, narrowed := true }
def HeaderBytesUptoSaid : Prop := headerBytesUptoRow.holds Try.pinned (OpenSpec.upto headerBytesSpec)

/-- 'drumlinlaw13.HeaderReads', WHERE WHAT IT READS IS OF BULK AT MOST 1048576: true; the input reads as it did. -/
def headerReadsUptoRow : OpenClaim := { program := "ytagcaepkbilpbaa", sum := "bf6250cd0cccc5ad005be20ddac605f91475006a65e927e4ca36bb74a49c947d", func := "drumlin/drumlinlaw13.HeaderReads", spec := "headerReads", apart := false, narrowed := true }
def HeaderReadsUptoSaid : Prop := headerReadsUptoRow.holds Try.pinned (OpenSpec.upto headerReadsSpec)

/-- 'drumlinlaw13.HeaderSums', WHERE WHAT IT READS IS OF BULK AT MOST 1048576: true; the input reads as it did. -/
def headerSumsUptoRow : OpenClaim := { program := "ytagcaepkbilpbaa", sum := "bf6250cd0cccc5ad005be20ddac605f91475006a65e927e4ca36bb74a49c947d", func := "drumlin/drumlinlaw13.HeaderSums", spec := "headerSums", apart := false, narrowed := true }
def HeaderSumsUptoSaid : Prop := headerSumsUptoRow.holds Try.pinned (OpenSpec.upto headerSumsSpec)

/-- 'drumlinlaw13.HeaderRefuses', WHERE WHAT IT READS IS OF BULK AT MOST 1048576: true; the input reads as it did. -/
def headerRefusesUptoRow : OpenClaim := { program := "ytagcaepkbilpbaa", sum := "bf6250cd0cccc5ad005be20ddac605f91475006a65e927e4ca36bb74a49c947d", func := "drumlin/drumlinlaw13.HeaderRefuses", spec := "headerRefuses", apart := false, narrowed := true }
def HeaderRefusesUptoSaid : Prop := headerRefusesUptoRow.holds Try.pinned (OpenSpec.upto headerRefusesSpec)

/-- 'drumlinlaw13.HeaderRoundTrip', WHERE WHAT IT READS IS OF BULK AT MOST 1048576: true; the input reads as it did. -/
def headerRoundTripUptoRow : OpenClaim := { program := "ytagcaepkbilpbaa", sum := "bf6250cd0cccc5ad005be20ddac605f91475006a65e927e4ca36bb74a49c947d", func := "drumlin/drumlinlaw13.HeaderRoundTrip", spec := "headerRoundTrip", apart := false, narrowed := true }
def HeaderRoundTripUptoSaid : Prop := headerRoundTripUptoRow.holds Try.pinned (OpenSpec.upto headerRoundTripSpec)

end Rows
end Go.Proofs.Ytagcaepkbilpbaa
