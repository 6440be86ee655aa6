/-
  No cell of these rows narrows 'for every input' (looked for: loops, veiled, ifaces, maps, wideKeys, modest, calm, conditions, laid).
  DERIVED. THE GIVEN ROWS OF THIS SEAT. 8 by the template 'for every input the law returns true; each argument reads behind the call as it read before'; 0 by the template 'total and deterministic' (their statements: YtiobnhdcapfhgaaTotals.lean).
  GIVEN WITH THE SEED: the statements are not yours to turn. If you find one false, say at which input.
  Laid BY PROGRAM, IN A SANDBOX (cutbox-rows.mjs): the forced cells as the released guide's own fill.sh prints them over the translation deff2d7a5e4f5feb… (all of the seat's roots in one cut). By AI agents, Wed Nov 11 2026. No macro, syntax, notation, axiom, sorry.
-/
import Derived.Test.YtiobnhdcapfhgaaChecked
import GoSem.Claim
import GoSem.ClaimJoined
import GoSem.ClaimMapViews
import Derived.JoinedTies
import Derived.KernelRfl
namespace Go.Proofs.Ytiobnhdcapfhgaa
/- THE CELL 'sum', in the pinned program and in every row, IS THE sha256 OF THE DUMP (.gsa) THAT YtiobnhdcapfhgaaProg.lean LOADS. Nothing in Lean hashes anything: it is a label: what it is worth is what the hold of that sum in a sandbox is worth. -/
noncomputable def Try.pinned : Pinned := { name := "ytiobnhdcapfhgaa", sum := "deff2d7a5e4f5febb314d2d8a0e83eee8e60eae48035ff24e9f8eccc6b4f99db", checked := Try.checked }
namespace Rows
def none {H : Type} : Left H := { results := [], args := [] }

/-- 'drumlinlaw15.FooterEncodes': WHATEVER THE INPUT: true; the input reads as it did. -/
def footerEncodesSpec : ChangeSpec := { name := "footerEncodes", fn := fun _ => fun
  | [d] => { results := [.lit (.bool true)], args := [d] }
  | _ => none }
def footerEncodesRow : OpenClaim := { program := "ytiobnhdcapfhgaa", sum := "deff2d7a5e4f5febb314d2d8a0e83eee8e60eae48035ff24e9f8eccc6b4f99db", func := "drumlin/drumlinlaw15.FooterEncodes", spec := "footerEncodes", inPlace := ["internal/bytealg.IndexByteString", "internal/bytealg.IndexString"], unfollowed := true, recurses := true, named := ["internal/bytealg.MaxLen"], apart := false }
def FooterEncodesSaid : Prop := footerEncodesRow.holds Try.pinned (OpenSpec.ofChange footerEncodesSpec)

/-- ITS FALSE NEIGHBOUR: 'it returns false'. Refute it at one input. -/
def footerEncodesWrong : ChangeSpec := { name := "footerEncodes", fn := fun _ => fun
  | [d] => { results := [.lit (.bool false)], args := [d] }
  | _ => none }
def FooterEncodesWrongFalsely : Prop := footerEncodesRow.holds Try.pinned (OpenSpec.ofChange footerEncodesWrong)

/-- 'drumlinlaw15.FooterDecodes': WHATEVER THE INPUT: true; the input reads as it did. -/
def footerDecodesSpec : ChangeSpec := { name := "footerDecodes", fn := fun _ => fun
  | [d] => { results := [.lit (.bool true)], args := [d] }
  | _ => none }
def footerDecodesRow : OpenClaim := { program := "ytiobnhdcapfhgaa", sum := "deff2d7a5e4f5febb314d2d8a0e83eee8e60eae48035ff24e9f8eccc6b4f99db", func := "drumlin/drumlinlaw15.FooterDecodes", spec := "footerDecodes", inPlace := ["internal/bytealg.IndexByteString", "internal/bytealg.IndexString"], unfollowed := true, recurses := true, named := ["internal/bytealg.MaxLen"], apart := false }
def FooterDecodesSaid : Prop := footerDecodesRow.holds Try.pinned (OpenSpec.ofChange footerDecodesSpec)

/-- ITS FALSE NEIGHBOUR: 'it returns false'. Refute it at one input. -/
def footerDecodesWrong : ChangeSpec := { name := "footerDecodes", fn := fun _ => fun
  | [d] => { results := [.lit (.bool false)], args := [d] }
  | _ => none }
def FooterDecodesWrongFalsely : Prop := footerDecodesRow.holds Try.pinned (OpenSpec.ofChange footerDecodesWrong)

/-- 'drumlinlaw15.FooterBits': WHATEVER THE INPUT: true; the input reads as it did. -/
def footerBitsSpec : ChangeSpec := { name := "footerBits", fn := fun _ => fun
  | [d1, d2, d3, d4] => { results := [.lit (.bool true)], args := [d1, d2, d3, d4] }
  | _ => none }
def footerBitsRow : OpenClaim := { program := "ytiobnhdcapfhgaa", sum := "deff2d7a5e4f5febb314d2d8a0e83eee8e60eae48035ff24e9f8eccc6b4f99db", func := "drumlin/drumlinlaw15.FooterBits", spec := "footerBits", inPlace := ["internal/bytealg.IndexByteString", "internal/bytealg.IndexString"], unfollowed := true, recurses := true, named := ["internal/bytealg.MaxLen"], apart := false }
def FooterBitsSaid : Prop := footerBitsRow.holds Try.pinned (OpenSpec.ofChange footerBitsSpec)

/-- ITS FALSE NEIGHBOUR: 'it returns false'. Refute it at one input. -/
def footerBitsWrong : ChangeSpec := { name := "footerBits", fn := fun _ => fun
  | [d1, d2, d3, d4] => { results := [.lit (.bool false)], args := [d1, d2, d3, d4] }
  | _ => none }
def FooterBitsWrongFalsely : Prop := footerBitsRow.holds Try.pinned (OpenSpec.ofChange footerBitsWrong)

/-- 'drumlinlaw15.FooterReads': WHATEVER THE INPUT: true; the input reads as it did. -/
def footerReadsSpec : ChangeSpec := { name := "footerReads", fn := fun _ => fun
  | [d] => { results := [.lit (.bool true)], args := [d] }
  | _ => none }
def footerReadsRow : OpenClaim := { program := "ytiobnhdcapfhgaa", sum := "deff2d7a5e4f5febb314d2d8a0e83eee8e60eae48035ff24e9f8eccc6b4f99db", func := "drumlin/drumlinlaw15.FooterReads", spec := "footerReads", inPlace := ["internal/bytealg.IndexByteString", "internal/bytealg.IndexString"], unfollowed := true, recurses := true, named := ["internal/bytealg.MaxLen"], apart := false }
def FooterReadsSaid : Prop := footerReadsRow.holds Try.pinned (OpenSpec.ofChange footerReadsSpec)

/-- ITS FALSE NEIGHBOUR: 'it returns false'. Refute it at one input. -/
def footerReadsWrong : ChangeSpec := { name := "footerReads", fn := fun _ => fun
  | [d] => { results := [.lit (.bool false)], args := [d] }
  | _ => none }
def FooterReadsWrongFalsely : Prop := footerReadsRow.holds Try.pinned (OpenSpec.ofChange footerReadsWrong)

/-- 'drumlinlaw15.FooterFull': WHATEVER THE INPUT: true; the input reads as it did. -/
def footerFullSpec : ChangeSpec := { name := "footerFull", fn := fun _ => fun
  | [d1, d2] => { results := [.lit (.bool true)], args := [d1, d2] }
  | _ => none }
def footerFullRow : OpenClaim := { program := "ytiobnhdcapfhgaa", sum := "deff2d7a5e4f5febb314d2d8a0e83eee8e60eae48035ff24e9f8eccc6b4f99db", func := "drumlin/drumlinlaw15.FooterFull", spec := "footerFull", inPlace := ["internal/bytealg.IndexByteString", "internal/bytealg.IndexString"], unfollowed := true, recurses := true, named := ["internal/bytealg.MaxLen"], apart := false }
def FooterFullSaid : Prop := footerFullRow.holds Try.pinned (OpenSpec.ofChange footerFullSpec)

/-- ITS FALSE NEIGHBOUR: 'it returns false'. Refute it at one input. -/
def footerFullWrong : ChangeSpec := { name := "footerFull", fn := fun _ => fun
  | [d1, d2] => { results := [.lit (.bool false)], args := [d1, d2] }
  | _ => none }
def FooterFullWrongFalsely : Prop := footerFullRow.holds Try.pinned (OpenSpec.ofChange footerFullWrong)

/-- 'drumlinlaw15.FooterLists': WHATEVER THE INPUT: true; the input reads as it did. -/
def footerListsSpec : ChangeSpec := { name := "footerLists", fn := fun _ => fun
  | [d1, d2, d3] => { results := [.lit (.bool true)], args := [d1, d2, d3] }
  | _ => none }
def footerListsRow : OpenClaim := { program := "ytiobnhdcapfhgaa", sum := "deff2d7a5e4f5febb314d2d8a0e83eee8e60eae48035ff24e9f8eccc6b4f99db", func := "drumlin/drumlinlaw15.FooterLists", spec := "footerLists", inPlace := ["internal/bytealg.IndexByteString", "internal/bytealg.IndexString"], unfollowed := true, recurses := true, named := ["internal/bytealg.MaxLen"], apart := false }
def FooterListsSaid : Prop := footerListsRow.holds Try.pinned (OpenSpec.ofChange footerListsSpec)

/-- ITS FALSE NEIGHBOUR: 'it returns false'. Refute it at one input. -/
def footerListsWrong : ChangeSpec := { name := "footerLists", fn := fun _ => fun
  | [d1, d2, d3] => { results := [.lit (.bool false)], args := [d1, d2, d3] }
  | _ => none }
def FooterListsWrongFalsely : Prop := footerListsRow.holds Try.pinned (OpenSpec.ofChange footerListsWrong)

/-- 'drumlinlaw15.FooterBack': WHATEVER THE INPUT: true; the input reads as it did. -/
def footerBackSpec : ChangeSpec := { name := "footerBack", fn := fun _ => fun
  | [d1, d2, d3, d4, d5] => { results := [.lit (.bool true)], args := [d1, d2, d3, d4, d5] }
  | _ => none }
def footerBackRow : OpenClaim := { program := "ytiobnhdcapfhgaa", sum := "deff2d7a5e4f5febb314d2d8a0e83eee8e60eae48035ff24e9f8eccc6b4f99db", func := "drumlin/drumlinlaw15.FooterBack", spec := "footerBack", inPlace := ["internal/bytealg.IndexByteString", "internal/bytealg.IndexString"], unfollowed := true, recurses := true, named := ["internal/bytealg.MaxLen"], apart := false }
def FooterBackSaid : Prop := footerBackRow.holds Try.pinned (OpenSpec.ofChange footerBackSpec)

/-- ITS FALSE NEIGHBOUR: 'it returns false'. Refute it at one input. -/
def footerBackWrong : ChangeSpec := { name := "footerBack", fn := fun _ => fun
  | [d1, d2, d3, d4, d5] => { results := [.lit (.bool false)], args := [d1, d2, d3, d4, d5] }
  | _ => none }
def FooterBackWrongFalsely : Prop := footerBackRow.holds Try.pinned (OpenSpec.ofChange footerBackWrong)

/-- 'drumlinlaw15.FooterOne': WHATEVER THE INPUT: true; the input reads as it did. -/
def footerOneSpec : ChangeSpec := { name := "footerOne", fn := fun _ => fun
  | [d1, d2] => { results := [.lit (.bool true)], args := [d1, d2] }
  | _ => none }
def footerOneRow : OpenClaim := { program := "ytiobnhdcapfhgaa", sum := "deff2d7a5e4f5febb314d2d8a0e83eee8e60eae48035ff24e9f8eccc6b4f99db", func := "drumlin/drumlinlaw15.FooterOne", spec := "footerOne", inPlace := ["internal/bytealg.IndexByteString", "internal/bytealg.IndexString"], unfollowed := true, recurses := true, named := ["internal/bytealg.MaxLen"], apart := false }
def FooterOneSaid : Prop := footerOneRow.holds Try.pinned (OpenSpec.ofChange footerOneSpec)

/-- ITS FALSE NEIGHBOUR: 'it returns false'. Refute it at one input. -/
def footerOneWrong : ChangeSpec := { name := "footerOne", fn := fun _ => fun
  | [d1, d2] => { results := [.lit (.bool false)], args := [d1, d2] }
  | _ => none }
def FooterOneWrongFalsely : Prop := footerOneRow.holds Try.pinned (OpenSpec.ofChange footerOneWrong)

/- THE SECOND FORM. 'bulk': how many values and letters a reading holds, each counted each time it is reached (what is shared counts as often as it is met; a slice's spare places count too). A statement '..UptoSaid' is the law's where the arguments, and the package variables that the reading takes, are together of bulk at most 1048576: NARROWER than '..Said'. Prove '..Said' where nothing that the law and all that it calls make is longer than what came in: it says more and counts as full. Else prove '..UptoSaid'. A law counts once. -/
mutual
def uptoBulk {H : Type} : DataW H → Nat
  | .lit (.string bytes) => bytes.length + 1
  | .lit _ => 1
  | .nil => 1
  | .ptr d => uptoBulk d + 1
  | .slice elems spare => uptoBulkAll elems + uptoBulkAll spare + 1
  | .agg parts => uptoBulkAll parts + 1
  | .iface _ d => uptoBulk d + 1
  | .map entries => uptoBulkEntries entries + 1
  | .held _ => 1
def uptoBulkAll {H : Type} : List (DataW H) → Nat
  | [] => 0
  | d :: r => uptoBulk d + uptoBulkAll r
def uptoBulkEntries {H : Type} : List (Lit × DataW H) → Nat
  | [] => 0
  | x :: r => uptoBulkEntry x + uptoBulkEntries r
def uptoBulkEntry {H : Type} : Lit × DataW H → Nat
  | (.string bytes, d) => bytes.length + uptoBulk d + 1
  | (_, d) => uptoBulk d + 1
 end
def uptoSmall : (H : Type) → List (DataW H) → Bool := fun _ ds => decide (uptoBulkAll ds ≤ 1048576)
def OpenSpec.upto (s : _root_.Go.ChangeSpec) : _root_.Go.OpenSpec := { _root_.Go.OpenSpec.ofChange s with cond := some uptoSmall }

/-- 'drumlinlaw15.FooterEncodes', WHERE WHAT IT READS IS OF BULK AT MOST 1048576: true; the input reads as it did. -/
def footerEncodesUptoRow : OpenClaim := { program := "ytiobnhdcapfhgaa", sum := "deff2d7a5e4f5febb314d2d8a0e83eee8e60eae48035ff24e9f8eccc6b4f99db", func := "drumlin/drumlinlaw15.FooterEncodes", spec := "footerEncodes", inPlace := ["internal/bytealg.IndexByteString", "internal/bytealg.IndexString"], unfollowed := true, recurses := true, named := ["internal/bytealg.MaxLen"], apart := false, narrowed := true }
def FooterEncodesUptoSaid : Prop := footerEncodesUptoRow.holds Try.pinned (OpenSpec.upto footerEncodesSpec)

/-- 'drumlinlaw15.FooterDecodes', WHERE WHAT IT READS IS OF BULK AT MOST 1048576: true; the input reads as it did. -/
def footerDecodesUptoRow : OpenClaim := { program := "ytiobnhdcapfhgaa", sum := "deff2d7a5e4f5febb314d2d8a0e83eee8e60eae48035ff24e9f8eccc6b4f99db", func := "drumlin/drumlinlaw15.FooterDecodes", spec := "footerDecodes", inPlace := ["internal/bytealg.IndexByteString", "internal/bytealg.IndexString"], unfollowed := true, recurses := true, named := ["internal/bytealg.MaxLen"], apart := false, narrowed := true }
def FooterDecodesUptoSaid : Prop := footerDecodesUptoRow.holds Try.pinned (OpenSpec.upto footerDecodesSpec)

/-- 'drumlinlaw15.FooterBits', WHERE WHAT IT READS IS OF BULK AT MOST 1048576: true; the input reads as it did. -/
def footerBitsUptoRow : OpenClaim := { program := "ytiobnhdcapfhgaa", sum := "deff2d7a5e4f5febb314d2d8a0e83eee8e60eae48035ff24e9f8eccc6b4f99db", func := "drumlin/drumlinlaw15.FooterBits", spec := "footerBits", inPlace := ["internal/bytealg.IndexByteString", "internal/bytealg.IndexString"], unfollowed := true, recurses := true, named := ["internal/bytealg.MaxLen"], apart := false, narrowed := true }
def FooterBitsUptoSaid : Prop := footerBitsUptoRow.holds Try.pinned (OpenSpec.upto footerBitsSpec)

/-- 'drumlinlaw15.FooterReads', WHERE WHAT IT READS IS OF BULK AT MOST 1048576: true; the input reads as it did. -/
def footerReadsUptoRow : OpenClaim := { program := "ytiobnhdcapfhgaa", sum := "deff2d7a5e4f5febb314d2d8a0e83eee8e60eae48035ff24e9f8eccc6b4f99db", func := "drumlin/drumlinlaw15.FooterReads", spec := "footerReads", inPlace := ["internal/bytealg.IndexByteString", "internal/bytealg.IndexString"], unfollowed := true, recurses := true, named := ["internal/bytealg.MaxLen"], apart := false, narrowed := true }
def FooterReadsUptoSaid : Prop := footerReadsUptoRow.holds Try.pinned (OpenSpec.upto footerReadsSpec)

/-- 'drumlinlaw15.FooterFull', WHERE WHAT IT READS IS OF BULK AT MOST 1048576: true; the input reads as it did. -/
def footerFullUptoRow : OpenClaim := { program := "ytiobnhdcapfhgaa", sum := "deff2d7a5e4f5febb314d2d8a0e83eee8e60eae48035ff24e9f8eccc6b4f99db", func := "drumlin/drumlinlaw15.FooterFull", spec := "footerFull", inPlace := ["internal/bytealg.IndexByteString", "internal/bytealg.IndexString"], unfollowed := true, recurses := true, named := ["internal/bytealg.MaxLen"], apart := false, narrowed := true }
def FooterFullUptoSaid : Prop := footerFullUptoRow.holds Try.pinned (OpenSpec.upto footerFullSpec)

/-- 'drumlinlaw15.FooterLists', WHERE WHAT IT READS IS OF BULK AT MOST 1048576: true; the input reads as it did. -/
def footerListsUptoRow : OpenClaim := { program := "ytiobnhdcapfhgaa", sum := "deff2d7a5e4f5febb314d2d8a0e83eee8e60eae48035ff24e9f8eccc6b4f99db", func := "drumlin/drumlinlaw15.FooterLists", spec := "footerLists", inPlace := ["internal/bytealg.IndexByteString", "internal/bytealg.IndexString"], unfollowed := true, recurses := true, named := ["internal/bytealg.MaxLen"], apart := false, narrowed := true }
def FooterListsUptoSaid : Prop := footerListsUptoRow.holds Try.pinned (OpenSpec.upto footerListsSpec)

/-- 'drumlinlaw15.FooterBack', WHERE WHAT IT READS IS OF BULK AT MOST 1048576: true; the input reads as it did. -/
def footerBackUptoRow : OpenClaim := { program := "ytiobnhdcapfhgaa", sum := "deff2d7a5e4f5febb314d2d8a0e83eee8e60eae48035ff24e9f8eccc6b4f99db", func := "drumlin/drumlinlaw15.FooterBack", spec := "footerBack", inPlace := ["internal/bytealg.IndexByteString", "internal/bytealg.IndexString"], unfollowed := true, recurses := true, named := ["internal/bytealg.MaxLen"], apart := false, narrowed := true }
def FooterBackUptoSaid : Prop := footerBackUptoRow.holds Try.pinned (OpenSpec.upto footerBackSpec)

/-- 'drumlinlaw15.FooterOne', WHERE WHAT IT READS IS OF BULK AT MOST 1048576: true; the input reads as it did. -/
def footerOneUptoRow : OpenClaim := { program := "ytiobnhdcapfhgaa", sum := "deff2d7a5e4f5febb314d2d8a0e83eee8e60eae48035ff24e9f8eccc6b4f99db", func := "drumlin/drumlinlaw15.FooterOne", spec := "footerOne", inPlace := ["internal/bytealg.IndexByteString", "internal/bytealg.IndexString"], unfollowed := true, recurses := true, named := ["internal/bytealg.MaxLen"], apart := false, narrowed := true }
def FooterOneUptoSaid : Prop := footerOneUptoRow.holds Try.pinned (OpenSpec.upto footerOneSpec)

end Rows
end Go.Proofs.Ytiobnhdcapfhgaa
