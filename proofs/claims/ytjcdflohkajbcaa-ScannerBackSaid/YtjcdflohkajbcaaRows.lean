/-
  No cell of these rows narrows 'for every input' (looked for: loops, veiled, ifaces, maps, wideKeys, modest, calm, conditions, laid).
  DERIVED. THE GIVEN ROWS OF THIS SEAT. 8 by the template 'for every input the law returns true; each argument reads behind the call as it read before'; 0 by the template 'total and deterministic' (their statements: YtjcdflohkajbcaaTotals.lean).
  GIVEN WITH THE SEED: the statements are not yours to turn. If you find one false, say at which input.
  Laid BY PROGRAM, IN A SANDBOX (cutbox-rows.mjs): the forced cells as the released guide's own fill.sh prints them over the translation 98931045171a3e24… (all of the seat's roots in one cut). By AI agents, Wed Nov 11 2026. No macro, syntax, notation, axiom, sorry.
-/
import Derived.Test.YtjcdflohkajbcaaChecked
import GoSem.Claim
import GoSem.ClaimJoined
import GoSem.ClaimMapViews
import Derived.JoinedTies
import Derived.KernelRfl
namespace Go.Proofs.Ytjcdflohkajbcaa
/- THE CELL 'sum', in the pinned program and in every row, IS THE sha256 OF THE DUMP (.gsa) THAT YtjcdflohkajbcaaProg.lean LOADS. Nothing in Lean hashes anything: it is a label: what it is worth is what the hold of that sum in a sandbox is worth. -/
noncomputable def Try.pinned : Pinned := { name := "ytjcdflohkajbcaa", sum := "98931045171a3e24a0992a4d38f0fb5234b9cdafa9adc7f6ff1908a35b32a1cb", checked := Try.checked }
namespace Rows
def none {H : Type} : Left H := { results := [], args := [] }

/-- 'drumlinlaw16.ScannerLoops': WHATEVER THE INPUT: true; the input reads as it did. -/
def scannerLoopsSpec : ChangeSpec := { name := "scannerLoops", fn := fun _ => fun
  | [d1, d2, d3] => { results := [.lit (.bool true)], args := [d1, d2, d3] }
  | _ => none }
def scannerLoopsRow : OpenClaim := { program := "ytjcdflohkajbcaa", sum := "98931045171a3e24a0992a4d38f0fb5234b9cdafa9adc7f6ff1908a35b32a1cb", func := "drumlin/drumlinlaw16.ScannerLoops", spec := "scannerLoops", inPlace := ["internal/bytealg.IndexByteString", "internal/bytealg.IndexString"], unfollowed := true, recurses := true, named := ["internal/bytealg.MaxLen"], apart := false }
def ScannerLoopsSaid : Prop := scannerLoopsRow.holds Try.pinned (OpenSpec.ofChange scannerLoopsSpec)

/-- ITS FALSE NEIGHBOUR: 'it returns false'. Refute it at one input. -/
def scannerLoopsWrong : ChangeSpec := { name := "scannerLoops", fn := fun _ => fun
  | [d1, d2, d3] => { results := [.lit (.bool false)], args := [d1, d2, d3] }
  | _ => none }
def ScannerLoopsWrongFalsely : Prop := scannerLoopsRow.holds Try.pinned (OpenSpec.ofChange scannerLoopsWrong)

/-- 'drumlinlaw16.ScannerKnown': WHATEVER THE INPUT: true; the input reads as it did. -/
def scannerKnownSpec : ChangeSpec := { name := "scannerKnown", fn := fun _ => fun
  | [] => { results := [.lit (.bool true)], args := [] }
  | _ => none }
def scannerKnownRow : OpenClaim := { program := "ytjcdflohkajbcaa", sum := "98931045171a3e24a0992a4d38f0fb5234b9cdafa9adc7f6ff1908a35b32a1cb", func := "drumlin/drumlinlaw16.ScannerKnown", spec := "scannerKnown", inPlace := ["internal/bytealg.IndexByteString", "internal/bytealg.IndexString"], unfollowed := true, recurses := true, named := ["internal/bytealg.MaxLen"], apart := false }
def ScannerKnownSaid : Prop := scannerKnownRow.holds Try.pinned (OpenSpec.ofChange scannerKnownSpec)

/-- ITS FALSE NEIGHBOUR: 'it returns false'. Refute it at one input. -/
def scannerKnownWrong : ChangeSpec := { name := "scannerKnown", fn := fun _ => fun
  | [] => { results := [.lit (.bool false)], args := [] }
  | _ => none }
def ScannerKnownWrongFalsely : Prop := scannerKnownRow.holds Try.pinned (OpenSpec.ofChange scannerKnownWrong)

/-- 'drumlinlaw16.ScannerReads': WHATEVER THE INPUT: true; the input reads as it did. -/
def scannerReadsSpec : ChangeSpec := { name := "scannerReads", fn := fun _ => fun
  | [d] => { results := [.lit (.bool true)], args := [d] }
  | _ => none }
def scannerReadsRow : OpenClaim := { program := "ytjcdflohkajbcaa", sum := "98931045171a3e24a0992a4d38f0fb5234b9cdafa9adc7f6ff1908a35b32a1cb", func := "drumlin/drumlinlaw16.ScannerReads", spec := "scannerReads", inPlace := ["internal/bytealg.IndexByteString", "internal/bytealg.IndexString"], unfollowed := true, recurses := true, named := ["internal/bytealg.MaxLen"], apart := false }
def ScannerReadsSaid : Prop := scannerReadsRow.holds Try.pinned (OpenSpec.ofChange scannerReadsSpec)

/-- ITS FALSE NEIGHBOUR: 'it returns false'. Refute it at one input. -/
def scannerReadsWrong : ChangeSpec := { name := "scannerReads", fn := fun _ => fun
  | [d] => { results := [.lit (.bool false)], args := [d] }
  | _ => none }
def ScannerReadsWrongFalsely : Prop := scannerReadsRow.holds Try.pinned (OpenSpec.ofChange scannerReadsWrong)

/-- 'drumlinlaw16.ScannerEntries': WHATEVER THE INPUT: true; the input reads as it did. -/
def scannerEntriesSpec : ChangeSpec := { name := "scannerEntries", fn := fun _ => fun
  | [d1, d2] => { results := [.lit (.bool true)], args := [d1, d2] }
  | _ => none }
def scannerEntriesRow : OpenClaim := { program := "ytjcdflohkajbcaa", sum := "98931045171a3e24a0992a4d38f0fb5234b9cdafa9adc7f6ff1908a35b32a1cb", func := "drumlin/drumlinlaw16.ScannerEntries", spec := "scannerEntries", inPlace := ["internal/bytealg.IndexByteString", "internal/bytealg.IndexString"], unfollowed := true, recurses := true, named := ["internal/bytealg.MaxLen"], apart := false }
def ScannerEntriesSaid : Prop := scannerEntriesRow.holds Try.pinned (OpenSpec.ofChange scannerEntriesSpec)

/-- ITS FALSE NEIGHBOUR: 'it returns false'. Refute it at one input. -/
def scannerEntriesWrong : ChangeSpec := { name := "scannerEntries", fn := fun _ => fun
  | [d1, d2] => { results := [.lit (.bool false)], args := [d1, d2] }
  | _ => none }
def ScannerEntriesWrongFalsely : Prop := scannerEntriesRow.holds Try.pinned (OpenSpec.ofChange scannerEntriesWrong)

/-- 'drumlinlaw16.ScannerBack': WHATEVER THE INPUT: true; the input reads as it did. -/
def scannerBackSpec : ChangeSpec := { name := "scannerBack", fn := fun _ => fun
  | [d1, d2] => { results := [.lit (.bool true)], args := [d1, d2] }
  | _ => none }
def scannerBackRow : OpenClaim := { program := "ytjcdflohkajbcaa", sum := "98931045171a3e24a0992a4d38f0fb5234b9cdafa9adc7f6ff1908a35b32a1cb", func := "drumlin/drumlinlaw16.ScannerBack", spec := "scannerBack", inPlace := ["internal/bytealg.IndexByteString", "internal/bytealg.IndexString"], unfollowed := true, recurses := true, named := ["internal/bytealg.MaxLen"], apart := false }
def ScannerBackSaid : Prop := scannerBackRow.holds Try.pinned (OpenSpec.ofChange scannerBackSpec)

/-- ITS FALSE NEIGHBOUR: 'it returns false'. Refute it at one input. -/
def scannerBackWrong : ChangeSpec := { name := "scannerBack", fn := fun _ => fun
  | [d1, d2] => { results := [.lit (.bool false)], args := [d1, d2] }
  | _ => none }
def ScannerBackWrongFalsely : Prop := scannerBackRow.holds Try.pinned (OpenSpec.ofChange scannerBackWrong)

/-- 'drumlinlaw16.ScannerTorn': WHATEVER THE INPUT: true; the input reads as it did. -/
def scannerTornSpec : ChangeSpec := { name := "scannerTorn", fn := fun _ => fun
  | [d1, d2] => { results := [.lit (.bool true)], args := [d1, d2] }
  | _ => none }
def scannerTornRow : OpenClaim := { program := "ytjcdflohkajbcaa", sum := "98931045171a3e24a0992a4d38f0fb5234b9cdafa9adc7f6ff1908a35b32a1cb", func := "drumlin/drumlinlaw16.ScannerTorn", spec := "scannerTorn", inPlace := ["internal/bytealg.IndexByteString", "internal/bytealg.IndexString"], unfollowed := true, recurses := true, named := ["internal/bytealg.MaxLen"], apart := false }
def ScannerTornSaid : Prop := scannerTornRow.holds Try.pinned (OpenSpec.ofChange scannerTornSpec)

/-- ITS FALSE NEIGHBOUR: 'it returns false'. Refute it at one input. -/
def scannerTornWrong : ChangeSpec := { name := "scannerTorn", fn := fun _ => fun
  | [d1, d2] => { results := [.lit (.bool false)], args := [d1, d2] }
  | _ => none }
def ScannerTornWrongFalsely : Prop := scannerTornRow.holds Try.pinned (OpenSpec.ofChange scannerTornWrong)

/-- 'drumlinlaw16.ScannerChanged': WHATEVER THE INPUT: true; the input reads as it did. -/
def scannerChangedSpec : ChangeSpec := { name := "scannerChanged", fn := fun _ => fun
  | [d1, d2, d3] => { results := [.lit (.bool true)], args := [d1, d2, d3] }
  | _ => none }
def scannerChangedRow : OpenClaim := { program := "ytjcdflohkajbcaa", sum := "98931045171a3e24a0992a4d38f0fb5234b9cdafa9adc7f6ff1908a35b32a1cb", func := "drumlin/drumlinlaw16.ScannerChanged", spec := "scannerChanged", inPlace := ["internal/bytealg.IndexByteString", "internal/bytealg.IndexString"], unfollowed := true, recurses := true, named := ["internal/bytealg.MaxLen"], apart := false }
def ScannerChangedSaid : Prop := scannerChangedRow.holds Try.pinned (OpenSpec.ofChange scannerChangedSpec)

/-- ITS FALSE NEIGHBOUR: 'it returns false'. Refute it at one input. -/
def scannerChangedWrong : ChangeSpec := { name := "scannerChanged", fn := fun _ => fun
  | [d1, d2, d3] => { results := [.lit (.bool false)], args := [d1, d2, d3] }
  | _ => none }
def ScannerChangedWrongFalsely : Prop := scannerChangedRow.holds Try.pinned (OpenSpec.ofChange scannerChangedWrong)

/-- 'drumlinlaw16.ScannerSeals': WHATEVER THE INPUT: true; the input reads as it did. -/
def scannerSealsSpec : ChangeSpec := { name := "scannerSeals", fn := fun _ => fun
  | [d1, d2, d3, d4] => { results := [.lit (.bool true)], args := [d1, d2, d3, d4] }
  | _ => none }
def scannerSealsRow : OpenClaim := { program := "ytjcdflohkajbcaa", sum := "98931045171a3e24a0992a4d38f0fb5234b9cdafa9adc7f6ff1908a35b32a1cb", func := "drumlin/drumlinlaw16.ScannerSeals", spec := "scannerSeals", inPlace := ["internal/bytealg.IndexByteString", "internal/bytealg.IndexString"], unfollowed := true, recurses := true, named := ["internal/bytealg.MaxLen"], apart := false }
def ScannerSealsSaid : Prop := scannerSealsRow.holds Try.pinned (OpenSpec.ofChange scannerSealsSpec)

/-- ITS FALSE NEIGHBOUR: 'it returns false'. Refute it at one input. -/
def scannerSealsWrong : ChangeSpec := { name := "scannerSeals", fn := fun _ => fun
  | [d1, d2, d3, d4] => { results := [.lit (.bool false)], args := [d1, d2, d3, d4] }
  | _ => none }
def ScannerSealsWrongFalsely : Prop := scannerSealsRow.holds Try.pinned (OpenSpec.ofChange scannerSealsWrong)

/- THE SECOND FORM. 'bulk': how many values and letters a reading holds, each counted each time it is reached (what is shared counts as often as it is met; a slice's spare places count too). A statement '..UptoSaid' is the law's where the arguments, and the package variables that the reading takes, are together of bulk at most 1048576: NARROWER than '..Said'. Prove '..Said' where nothing that the law and all that it calls make is longer than what came in: it says more and counts as full. Else prove '..UptoSaid'. A law counts once. -/
mutual
def uptoBulk {H : Type} : DataW H → Nat
  | .lit (.string bytes) => bytes.length + 1
  | .lit _ => 1
  | .nil => 1
  | .ptr d => uptoBulk d + 1
  | .slice elems spare => uptoBulkAll elems + uptoBulkAll spare + 1
  | .agg parts => uptoBulkAll parts + 1
  | .iface _ d => uptoBulk d + 1
  | .map entries => uptoBulkEntries entries + 1
  | .held _ => 1
def uptoBulkAll {H : Type} : List (DataW H) → Nat
  | [] => 0
  | d :: r => uptoBulk d + uptoBulkAll r
def uptoBulkEntries {H : Type} : List (Lit × DataW H) → Nat
  | [] => 0
  | x :: r => uptoBulkEntry x + uptoBulkEntries r
def uptoBulkEntry {H : Type} : Lit × DataW H → Nat
  | (.string bytes, d) => bytes.length + uptoBulk d + 1
  | (_, d) => uptoBulk d + 1
 end
def uptoSmall : (H : Type) → List (DataW H) → Bool := fun _ ds => decide (uptoBulkAll ds ≤ 1048576)
def OpenSpec.upto (s : _root_.Go.ChangeSpec) : _root_.Go.OpenSpec := { _root_.Go.OpenSpec.ofChange s with cond := some uptoSmall }

/-- 'drumlinlaw16.ScannerLoops', WHERE WHAT IT READS IS OF BULK AT MOST 1048576: true; the input reads as it did. -/
def scannerLoopsUptoRow : OpenClaim := { program := "ytjcdflohkajbcaa", sum := "98931045171a3e24a0992a4d38f0fb5234b9cdafa9adc7f6ff1908a35b32a1cb", func := "drumlin/drumlinlaw16.ScannerLoops", spec := "scannerLoops", inPlace := ["internal/bytealg.IndexByteString", "internal/bytealg.IndexString"], unfollowed := true, recurses := true, named := ["internal/bytealg.MaxLen"], apart := false, narrowed := true }
def ScannerLoopsUptoSaid : Prop := scannerLoopsUptoRow.holds Try.pinned (OpenSpec.upto scannerLoopsSpec)

/-- 'drumlinlaw16.ScannerKnown', WHERE WHAT IT READS IS OF BULK AT MOST 1048576: true; the input reads as it did. -/
def scannerKnownUptoRow : OpenClaim := { program := "ytjcdflohkajbcaa", sum := "98931045171a3e24a0992a4d38f0fb5234b9cdafa9adc7f6ff1908a35b32a1cb", func := "drumlin/drumlinlaw16.ScannerKnown", spec := "scannerKnown", inPlace := ["internal/bytealg.IndexByteString", "internal/bytealg.IndexString"], unfollowed := true, recurses := true, named := ["internal/bytealg.MaxLen"], apart := false, narrowed := true }
def ScannerKnownUptoSaid : Prop := scannerKnownUptoRow.holds Try.pinned (OpenSpec.upto scannerKnownSpec)

/-- 'drumlinlaw16.ScannerReads', WHERE WHAT IT READS IS OF BULK AT MOST 1048576: true; the input reads as it did. -/
def scannerReadsUptoRow : OpenClaim := { program := "ytjcdflohkajbcaa", sum := "98931045171a3e24a0992a4d38f0fb5234b9cdafa9adc7f6ff1908a35b32a1cb", func := "drumlin/drumlinlaw16.ScannerReads", spec := "scannerReads", inPlace := ["internal/bytealg.IndexByteString", "internal/bytealg.IndexString"], unfollowed := true, recurses := true, named := ["internal/bytealg.MaxLen"], apart := false, narrowed := true }
def ScannerReadsUptoSaid : Prop := scannerReadsUptoRow.holds Try.pinned (OpenSpec.upto scannerReadsSpec)

/-- 'drumlinlaw16.ScannerEntries', WHERE WHAT IT READS IS OF BULK AT MOST 1048576: true; the input reads as it did. -/
def scannerEntriesUptoRow : OpenClaim := { program := "ytjcdflohkajbcaa", sum := "98931045171a3e24a0992a4d38f0fb5234b9cdafa9adc7f6ff1908a35b32a1cb", func := "drumlin/drumlinlaw16.ScannerEntries", spec := "scannerEntries", inPlace := ["internal/bytealg.IndexByteString", "internal/bytealg.IndexString"], unfollowed := true, recurses := true, named := ["internal/bytealg.MaxLen"], apart := false, narrowed := true }
def ScannerEntriesUptoSaid : Prop := scannerEntriesUptoRow.holds Try.pinned (OpenSpec.upto scannerEntriesSpec)

/-- 'drumlinlaw16.ScannerBack', WHERE WHAT IT READS IS OF BULK AT MOST 1048576: true; the input reads as it did. -/
def scannerBackUptoRow : OpenClaim := { program := "ytjcdflohkajbcaa", sum := "98931045171a3e24a0992a4d38f0fb5234b9cdafa9adc7f6ff1908a35b32a1cb", func := "drumlin/drumlinlaw16.ScannerBack", spec := "scannerBack", inPlace := ["internal/bytealg.IndexByteString", "internal/bytealg.IndexString"], unfollowed := true, recurses := true, named := ["internal/bytealg.MaxLen"], apart := false, narrowed := true }
def ScannerBackUptoSaid : Prop := scannerBackUptoRow.holds Try.pinned (OpenSpec.upto scannerBackSpec)

/-- 'drumlinlaw16.ScannerTorn', WHERE WHAT IT READS IS OF BULK AT MOST 1048576: true; the input reads as it did. -/
def scannerTornUptoRow : OpenClaim := { program := "ytjcdflohkajbcaa", sum := "98931045171a3e24a0992a4d38f0fb5234b9cdafa9adc7f6ff1908a35b32a1cb", func := "drumlin/drumlinlaw16.ScannerTorn", spec := "scannerTorn", inPlace := ["internal/bytealg.IndexByteString", "internal/bytealg.IndexString"], unfollowed := true, recurses := true, named := ["internal/bytealg.MaxLen"], apart := false, narrowed := true }
def ScannerTornUptoSaid : Prop := scannerTornUptoRow.holds Try.pinned (OpenSpec.upto scannerTornSpec)

/-- 'drumlinlaw16.ScannerChanged', WHERE WHAT IT READS IS OF BULK AT MOST 1048576: true; the input reads as it did. -/
def scannerChangedUptoRow : OpenClaim := { program := "ytjcdflohkajbcaa", sum := "98931045171a3e24a0992a4d38f0fb5234b9cdafa9adc7f6ff1908a35b32a1cb", func := "drumlin/drumlinlaw16.ScannerChanged", spec := "scannerChanged", inPlace := ["internal/bytealg.IndexByteString", "internal/bytealg.IndexString"], unfollowed := true, recurses := true, named := ["internal/bytealg.MaxLen"], apart := false, narrowed := true }
def ScannerChangedUptoSaid : Prop := scannerChangedUptoRow.holds Try.pinned (OpenSpec.upto scannerChangedSpec)

/-- 'drumlinlaw16.ScannerSeals', WHERE WHAT IT READS IS OF BULK AT MOST 1048576: true; the input reads as it did. -/
def scannerSealsUptoRow : OpenClaim := { program := "ytjcdflohkajbcaa", sum := "98931045171a3e24a0992a4d38f0fb5234b9cdafa9adc7f6ff1908a35b32a1cb", func := "drumlin/drumlinlaw16.ScannerSeals", spec := "scannerSeals", inPlace := ["internal/bytealg.IndexByteString", "internal/bytealg.IndexString"], unfollowed := true, recurses := true, named := ["internal/bytealg.MaxLen"], apart := false, narrowed := true }
def ScannerSealsUptoSaid : Prop := scannerSealsUptoRow.holds Try.pinned (OpenSpec.upto scannerSealsSpec)

end Rows
end Go.Proofs.Ytjcdflohkajbcaa
