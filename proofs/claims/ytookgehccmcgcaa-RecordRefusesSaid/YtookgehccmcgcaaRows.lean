/-
  No cell of these rows narrows 'for every input' (looked for: loops, veiled, ifaces, maps, wideKeys, modest, calm, conditions, laid).
  DERIVED. THE GIVEN ROWS OF THIS SEAT. 8 by the template 'for every input the law returns true; each argument reads behind the call as it read before'; 0 by the template 'total and deterministic' (their statements: YtookgehccmcgcaaTotals.lean).
  GIVEN WITH THE SEED: the statements are not yours to turn. If you find one false, say at which input.
  Laid BY PROGRAM, IN A SANDBOX (cutbox-rows.mjs): the forced cells as the released guide's own fill.sh prints them over the translation a2c18699c04e30f7… (all of the seat's roots in one cut). By AI agents, Wed Nov 11 2026. No macro, syntax, notation, axiom, sorry.
-/
import Derived.Test.YtookgehccmcgcaaChecked
import GoSem.Claim
import GoSem.ClaimJoined
import GoSem.ClaimMapViews
import Derived.JoinedTies
import Derived.KernelRfl
namespace Go.Proofs.Ytookgehccmcgcaa
/- THE CELL 'sum', in the pinned program and in every row, IS THE sha256 OF THE DUMP (.gsa) THAT YtookgehccmcgcaaProg.lean LOADS. Nothing in Lean hashes anything: it is a label: what it is worth is what the hold of that sum in a sandbox is worth. -/
noncomputable def Try.pinned : Pinned := { name := "ytookgehccmcgcaa", sum := "a2c18699c04e30f7c26122e09c0f81f0b109b4e86a5b1f2928a1612fb959fbcd", checked := Try.checked }
namespace Rows
def none {H : Type} : Left H := { results := [], args := [] }

/-- 'drumlinlaw14.RecordEncodes': WHATEVER THE INPUT: true; the input reads as it did. -/
def recordEncodesSpec : ChangeSpec := { name := "recordEncodes", fn := fun _ => fun
  | [d] => { results := [.lit (.bool true)], args := [d] }
  | _ => none }
def recordEncodesRow : OpenClaim := { program := "ytookgehccmcgcaa", sum := "a2c18699c04e30f7c26122e09c0f81f0b109b4e86a5b1f2928a1612fb959fbcd", func := "drumlin/drumlinlaw14.RecordEncodes", spec := "recordEncodes", inPlace := ["internal/bytealg.IndexByteString", "internal/bytealg.IndexString"], named := ["internal/bytealg.MaxLen"], apart := false }
def RecordEncodesSaid : Prop := recordEncodesRow.holds Try.pinned (OpenSpec.ofChange recordEncodesSpec)

/-- ITS FALSE NEIGHBOUR: 'it returns false'. Refute it at one input. -/
def recordEncodesWrong : ChangeSpec := { name := "recordEncodes", fn := fun _ => fun
  | [d] => { results := [.lit (.bool false)], args := [d] }
  | _ => none }
def RecordEncodesWrongFalsely : Prop := recordEncodesRow.holds Try.pinned (OpenSpec.ofChange recordEncodesWrong)

/-- 'drumlinlaw14.RecordDecodes': WHATEVER THE INPUT: true; the input reads as it did. -/
def recordDecodesSpec : ChangeSpec := { name := "recordDecodes", fn := fun _ => fun
  | [d] => { results := [.lit (.bool true)], args := [d] }
  | _ => none }
def recordDecodesRow : OpenClaim := { program := "ytookgehccmcgcaa", sum := "a2c18699c04e30f7c26122e09c0f81f0b109b4e86a5b1f2928a1612fb959fbcd", func := "drumlin/drumlinlaw14.RecordDecodes", spec := "recordDecodes", inPlace := ["internal/bytealg.IndexByteString", "internal/bytealg.IndexString"], named := ["internal/bytealg.MaxLen"], apart := false }
def RecordDecodesSaid : Prop := recordDecodesRow.holds Try.pinned (OpenSpec.ofChange recordDecodesSpec)

/-- ITS FALSE NEIGHBOUR: 'it returns false'. Refute it at one input. -/
def recordDecodesWrong : ChangeSpec := { name := "recordDecodes", fn := fun _ => fun
  | [d] => { results := [.lit (.bool false)], args := [d] }
  | _ => none }
def RecordDecodesWrongFalsely : Prop := recordDecodesRow.holds Try.pinned (OpenSpec.ofChange recordDecodesWrong)

/-- 'drumlinlaw14.RecordEntries': WHATEVER THE INPUT: true; the input reads as it did. -/
def recordEntriesSpec : ChangeSpec := { name := "recordEntries", fn := fun _ => fun
  | [d1, d2, d3] => { results := [.lit (.bool true)], args := [d1, d2, d3] }
  | _ => none }
def recordEntriesRow : OpenClaim := { program := "ytookgehccmcgcaa", sum := "a2c18699c04e30f7c26122e09c0f81f0b109b4e86a5b1f2928a1612fb959fbcd", func := "drumlin/drumlinlaw14.RecordEntries", spec := "recordEntries", inPlace := ["internal/bytealg.IndexByteString", "internal/bytealg.IndexString"], named := ["internal/bytealg.MaxLen"], apart := false }
def RecordEntriesSaid : Prop := recordEntriesRow.holds Try.pinned (OpenSpec.ofChange recordEntriesSpec)

/-- ITS FALSE NEIGHBOUR: 'it returns false'. Refute it at one input. -/
def recordEntriesWrong : ChangeSpec := { name := "recordEntries", fn := fun _ => fun
  | [d1, d2, d3] => { results := [.lit (.bool false)], args := [d1, d2, d3] }
  | _ => none }
def RecordEntriesWrongFalsely : Prop := recordEntriesRow.holds Try.pinned (OpenSpec.ofChange recordEntriesWrong)

/-- 'drumlinlaw14.RecordBack': WHATEVER THE INPUT: true; the input reads as it did. -/
def recordBackSpec : ChangeSpec := { name := "recordBack", fn := fun _ => fun
  | [d1, d2] => { results := [.lit (.bool true)], args := [d1, d2] }
  | _ => none }
def recordBackRow : OpenClaim := { program := "ytookgehccmcgcaa", sum := "a2c18699c04e30f7c26122e09c0f81f0b109b4e86a5b1f2928a1612fb959fbcd", func := "drumlin/drumlinlaw14.RecordBack", spec := "recordBack", inPlace := ["internal/bytealg.IndexByteString", "internal/bytealg.IndexString"], named := ["internal/bytealg.MaxLen"], apart := false }
def RecordBackSaid : Prop := recordBackRow.holds Try.pinned (OpenSpec.ofChange recordBackSpec)

/-- ITS FALSE NEIGHBOUR: 'it returns false'. Refute it at one input. -/
def recordBackWrong : ChangeSpec := { name := "recordBack", fn := fun _ => fun
  | [d1, d2] => { results := [.lit (.bool false)], args := [d1, d2] }
  | _ => none }
def RecordBackWrongFalsely : Prop := recordBackRow.holds Try.pinned (OpenSpec.ofChange recordBackWrong)

/-- 'drumlinlaw14.RecordReads': WHATEVER THE INPUT: true; the input reads as it did. -/
def recordReadsSpec : ChangeSpec := { name := "recordReads", fn := fun _ => fun
  | [d] => { results := [.lit (.bool true)], args := [d] }
  | _ => none }
def recordReadsRow : OpenClaim := { program := "ytookgehccmcgcaa", sum := "a2c18699c04e30f7c26122e09c0f81f0b109b4e86a5b1f2928a1612fb959fbcd", func := "drumlin/drumlinlaw14.RecordReads", spec := "recordReads", inPlace := ["internal/bytealg.IndexByteString", "internal/bytealg.IndexString"], named := ["internal/bytealg.MaxLen"], apart := false }
def RecordReadsSaid : Prop := recordReadsRow.holds Try.pinned (OpenSpec.ofChange recordReadsSpec)

/-- ITS FALSE NEIGHBOUR: 'it returns false'. Refute it at one input. -/
def recordReadsWrong : ChangeSpec := { name := "recordReads", fn := fun _ => fun
  | [d] => { results := [.lit (.bool false)], args := [d] }
  | _ => none }
def RecordReadsWrongFalsely : Prop := recordReadsRow.holds Try.pinned (OpenSpec.ofChange recordReadsWrong)

/-- 'drumlinlaw14.RecordChanges': WHATEVER THE INPUT: true; the input reads as it did. -/
def recordChangesSpec : ChangeSpec := { name := "recordChanges", fn := fun _ => fun
  | [d1, d2, d3] => { results := [.lit (.bool true)], args := [d1, d2, d3] }
  | _ => none }
def recordChangesRow : OpenClaim := { program := "ytookgehccmcgcaa", sum := "a2c18699c04e30f7c26122e09c0f81f0b109b4e86a5b1f2928a1612fb959fbcd", func := "drumlin/drumlinlaw14.RecordChanges", spec := "recordChanges", inPlace := ["internal/bytealg.IndexByteString", "internal/bytealg.IndexString"], named := ["internal/bytealg.MaxLen"], apart := false }
def RecordChangesSaid : Prop := recordChangesRow.holds Try.pinned (OpenSpec.ofChange recordChangesSpec)

/-- ITS FALSE NEIGHBOUR: 'it returns false'. Refute it at one input. -/
def recordChangesWrong : ChangeSpec := { name := "recordChanges", fn := fun _ => fun
  | [d1, d2, d3] => { results := [.lit (.bool false)], args := [d1, d2, d3] }
  | _ => none }
def RecordChangesWrongFalsely : Prop := recordChangesRow.holds Try.pinned (OpenSpec.ofChange recordChangesWrong)

/-- 'drumlinlaw14.RecordSeveral': WHATEVER THE INPUT: true; the input reads as it did. -/
def recordSeveralSpec : ChangeSpec := { name := "recordSeveral", fn := fun _ => fun
  | [d] => { results := [.lit (.bool true)], args := [d] }
  | _ => none }
def recordSeveralRow : OpenClaim := { program := "ytookgehccmcgcaa", sum := "a2c18699c04e30f7c26122e09c0f81f0b109b4e86a5b1f2928a1612fb959fbcd", func := "drumlin/drumlinlaw14.RecordSeveral", spec := "recordSeveral", inPlace := ["internal/bytealg.IndexByteString", "internal/bytealg.IndexString"], named := ["internal/bytealg.MaxLen"], apart := false }
def RecordSeveralSaid : Prop := recordSeveralRow.holds Try.pinned (OpenSpec.ofChange recordSeveralSpec)

/-- ITS FALSE NEIGHBOUR: 'it returns false'. Refute it at one input. -/
def recordSeveralWrong : ChangeSpec := { name := "recordSeveral", fn := fun _ => fun
  | [d] => { results := [.lit (.bool false)], args := [d] }
  | _ => none }
def RecordSeveralWrongFalsely : Prop := recordSeveralRow.holds Try.pinned (OpenSpec.ofChange recordSeveralWrong)

/-- 'drumlinlaw14.RecordRefuses': WHATEVER THE INPUT: true; the input reads as it did. -/
def recordRefusesSpec : ChangeSpec := { name := "recordRefuses", fn := fun _ => fun
  | [d1, d2, d3] => { results := [.lit (.bool true)], args := [d1, d2, d3] }
  | _ => none }
def recordRefusesRow : OpenClaim := { program := "ytookgehccmcgcaa", sum := "a2c18699c04e30f7c26122e09c0f81f0b109b4e86a5b1f2928a1612fb959fbcd", func := "drumlin/drumlinlaw14.RecordRefuses", spec := "recordRefuses", inPlace := ["internal/bytealg.IndexByteString", "internal/bytealg.IndexString"], named := ["internal/bytealg.MaxLen"], apart := false }
def RecordRefusesSaid : Prop := recordRefusesRow.holds Try.pinned (OpenSpec.ofChange recordRefusesSpec)

/-- ITS FALSE NEIGHBOUR: 'it returns false'. Refute it at one input. -/
def recordRefusesWrong : ChangeSpec := { name := "recordRefuses", fn := fun _ => fun
  | [d1, d2, d3] => { results := [.lit (.bool false)], args := [d1, d2, d3] }
  | _ => none }
def RecordRefusesWrongFalsely : Prop := recordRefusesRow.holds Try.pinned (OpenSpec.ofChange recordRefusesWrong)

/- THE SECOND FORM. 'bulk': how many values and letters a reading holds, each counted each time it is reached (what is shared counts as often as it is met; a slice's spare places count too). A statement '..UptoSaid' is the law's where the arguments, and the package variables that the reading takes, are together of bulk at most 1048576: NARROWER than '..Said'. Prove '..Said' where nothing that the law and all that it calls make is longer than what came in: it says more and counts as full. Else prove '..UptoSaid'. A law counts once. -/
mutual
def uptoBulk {H : Type} : DataW H → Nat
  | .lit (.string bytes) => bytes.length + 1
  | .lit _ => 1
  | .nil => 1
  | .ptr d => uptoBulk d + 1
  | .slice elems spare => uptoBulkAll elems + uptoBulkAll spare + 1
  | .agg parts => uptoBulkAll parts + 1
  | .iface _ d => uptoBulk d + 1
  | .map entries => uptoBulkEntries entries + 1
  | .held _ => 1
def uptoBulkAll {H : Type} : List (DataW H) → Nat
  | [] => 0
  | d :: r => uptoBulk d + uptoBulkAll r
def uptoBulkEntries {H : Type} : List (Lit × DataW H) → Nat
  | [] => 0
  | x :: r => uptoBulkEntry x + uptoBulkEntries r
def uptoBulkEntry {H : Type} : Lit × DataW H → Nat
  | (.string bytes, d) => bytes.length + uptoBulk d + 1
  | (_, d) => uptoBulk d + 1
 end
def uptoSmall : (H : Type) → List (DataW H) → Bool := fun _ ds => decide (uptoBulkAll ds ≤ 1048576)
def OpenSpec.upto (s : _root_.Go.ChangeSpec) : _root_.Go.OpenSpec := { _root_.Go.OpenSpec.ofChange s with cond := some uptoSmall }

/-- 'drumlinlaw14.RecordEncodes', WHERE WHAT IT READS IS OF BULK AT MOST 1048576: true; the input reads as it did. -/
def recordEncodesUptoRow : OpenClaim := { program := "ytookgehccmcgcaa", sum := "a2c18699c04e30f7c26122e09c0f81f0b109b4e86a5b1f2928a1612fb959fbcd", func := "drumlin/drumlinlaw14.RecordEncodes", spec := "recordEncodes", inPlace := ["internal/bytealg.IndexByteString", "internal/bytealg.IndexString"], named := ["internal/bytealg.MaxLen"], apart := false, narrowed := true }
def RecordEncodesUptoSaid : Prop := recordEncodesUptoRow.holds Try.pinned (OpenSpec.upto recordEncodesSpec)

/-- 'drumlinlaw14.RecordDecodes', WHERE WHAT IT READS IS OF BULK AT MOST 1048576: true; the input reads as it did. -/
def recordDecodesUptoRow : OpenClaim := { program := "ytookgehccmcgcaa", sum := "a2c18699c04e30f7c26122e09c0f81f0b109b4e86a5b1f2928a1612fb959fbcd", func := "drumlin/drumlinlaw14.RecordDecodes", spec := "recordDecodes", inPlace := ["internal/bytealg.IndexByteString", "internal/bytealg.IndexString"], named := ["internal/bytealg.MaxLen"], apart := false, narrowed := true }
def RecordDecodesUptoSaid : Prop := recordDecodesUptoRow.holds Try.pinned (OpenSpec.upto recordDecodesSpec)

/-- 'drumlinlaw14.RecordEntries', WHERE WHAT IT READS IS OF BULK AT MOST 1048576: true; the input reads as it did. -/
def recordEntriesUptoRow : OpenClaim := { program := "ytookgehccmcgcaa", sum := "a2c18699c04e30f7c26122e09c0f81f0b109b4e86a5b1f2928a1612fb959fbcd", func := "drumlin/drumlinlaw14.RecordEntries", spec := "recordEntries", inPlace := ["internal/bytealg.IndexByteString", "internal/bytealg.IndexString"], named := ["internal/bytealg.MaxLen"], apart := false, narrowed := true }
def RecordEntriesUptoSaid : Prop := recordEntriesUptoRow.holds Try.pinned (OpenSpec.upto recordEntriesSpec)

/-- 'drumlinlaw14.RecordBack', WHERE WHAT IT READS IS OF BULK AT MOST 1048576: true; the input reads as it did. -/
def recordBackUptoRow : OpenClaim := { program := "ytookgehccmcgcaa", sum := "a2c18699c04e30f7c26122e09c0f81f0b109b4e86a5b1f2928a1612fb959fbcd", func := "drumlin/drumlinlaw14.RecordBack", spec := "recordBack", inPlace := ["internal/bytealg.IndexByteString", "internal/bytealg.IndexString"], named := ["internal/bytealg.MaxLen"], apart := false, narrowed := true }
def RecordBackUptoSaid : Prop := recordBackUptoRow.holds Try.pinned (OpenSpec.upto recordBackSpec)

/-- 'drumlinlaw14.RecordReads', WHERE WHAT IT READS IS OF BULK AT MOST 1048576: true; the input reads as it did. -/
def recordReadsUptoRow : OpenClaim := { program := "ytookgehccmcgcaa", sum := "a2c18699c04e30f7c26122e09c0f81f0b109b4e86a5b1f2928a1612fb959fbcd", func := "drumlin/drumlinlaw14.RecordReads", spec := "recordReads", inPlace := ["internal/bytealg.IndexByteString", "internal/bytealg.IndexString"], named := ["internal/bytealg.MaxLen"], apart := false, narrowed := true }
def RecordReadsUptoSaid : Prop := recordReadsUptoRow.holds Try.pinned (OpenSpec.upto recordReadsSpec)

/-- 'drumlinlaw14.RecordChanges', WHERE WHAT IT READS IS OF BULK AT MOST 1048576: true; the input reads as it did. -/
def recordChangesUptoRow : OpenClaim := { program := "ytookgehccmcgcaa", sum := "a2c18699c04e30f7c26122e09c0f81f0b109b4e86a5b1f2928a1612fb959fbcd", func := "drumlin/drumlinlaw14.RecordChanges", spec := "recordChanges", inPlace := ["internal/bytealg.IndexByteString", "internal/bytealg.IndexString"], named := ["internal/bytealg.MaxLen"], apart := false, narrowed := true }
def RecordChangesUptoSaid : Prop := recordChangesUptoRow.holds Try.pinned (OpenSpec.upto recordChangesSpec)

/-- 'drumlinlaw14.RecordSeveral', WHERE WHAT IT READS IS OF BULK AT MOST 1048576: true; the input reads as it did. -/
def recordSeveralUptoRow : OpenClaim := { program := "ytookgehccmcgcaa", sum := "a2c18699c04e30f7c26122e09c0f81f0b109b4e86a5b1f2928a1612fb959fbcd", func := "drumlin/drumlinlaw14.RecordSeveral", spec := "recordSeveral", inPlace := ["internal/bytealg.IndexByteString", "internal/bytealg.IndexString"], named := ["internal/bytealg.MaxLen"], apart := false, narrowed := true }
def RecordSeveralUptoSaid : Prop := recordSeveralUptoRow.holds Try.pinned (OpenSpec.upto recordSeveralSpec)

/-- 'drumlinlaw14.RecordRefuses', WHERE WHAT IT READS IS OF BULK AT MOST 1048576: true; the input reads as it did. -/
def recordRefusesUptoRow : OpenClaim := { program := "ytookgehccmcgcaa", sum := "a2c18699c04e30f7c26122e09c0f81f0b109b4e86a5b1f2928a1612fb959fbcd", func := "drumlin/drumlinlaw14.RecordRefuses", spec := "recordRefuses", inPlace := ["internal/bytealg.IndexByteString", "internal/bytealg.IndexString"], named := ["internal/bytealg.MaxLen"], apart := false, narrowed := true }
def RecordRefusesUptoSaid : Prop := recordRefusesUptoRow.holds Try.pinned (OpenSpec.upto recordRefusesSpec)

end Rows
end Go.Proofs.Ytookgehccmcgcaa
