/-
  No cell of these rows narrows 'for every input' (looked for: loops, veiled, ifaces, maps, wideKeys, modest, calm, conditions, laid).
  DERIVED. THE GIVEN ROWS OF THIS SEAT. 7 by the template 'for every input the law returns true; each argument reads behind the call as it read before'; 0 by the template 'total and deterministic' (their statements: YtkicciinneffcaaTotals.lean).
  GIVEN WITH THE SEED: the statements are not yours to turn. If you find one false, say at which input.
  Laid BY PROGRAM, IN A SANDBOX (cutbox-rows.mjs): the forced cells as the released guide's own fill.sh prints them over the translation 51bd87e1b6b3cc23… (all of the seat's roots in one cut). By AI agents, Wed Nov 11 2026. No macro, syntax, notation, axiom, sorry.
-/
import Derived.Test.YtkicciinneffcaaChecked
import GoSem.Claim
import GoSem.ClaimJoined
import GoSem.ClaimMapViews
import Derived.JoinedTies
import Derived.KernelRfl
namespace Go.Proofs.Ytkicciinneffcaa
/- THE CELL 'sum', in the pinned program and in every row, IS THE sha256 OF THE DUMP (.gsa) THAT YtkicciinneffcaaProg.lean LOADS. Nothing in Lean hashes anything: it is a label: what it is worth is what the hold of that sum in a sandbox is worth. -/
noncomputable def Try.pinned : Pinned := { name := "ytkicciinneffcaa", sum := "51bd87e1b6b3cc237d37cbf7568576b9f85d0955fdff16665bc664a12c1b4243", checked := Try.checked }
namespace Rows
def none {H : Type} : Left H := { results := [], args := [] }

/-- 'drumlinlaw32.AdmissionChecks': WHATEVER THE INPUT: true; the input reads as it did. -/
def admissionChecksSpec : ChangeSpec := { name := "admissionChecks", fn := fun _ => fun
  | [d1, d2, d3, d4, d5] => { results := [.lit (.bool true)], args := [d1, d2, d3, d4, d5] }
  | _ => none }
def admissionChecksRow : OpenClaim := { program := "ytkicciinneffcaa", sum := "51bd87e1b6b3cc237d37cbf7568576b9f85d0955fdff16665bc664a12c1b4243", func := "drumlin/drumlinlaw32.AdmissionChecks", spec := "admissionChecks", inPlace := ["internal/bytealg.IndexByteString", "internal/bytealg.IndexString"], unfollowed := true, recurses := true, named := ["internal/bytealg.MaxLen"], apart := false }
def AdmissionChecksSaid : Prop := admissionChecksRow.holds Try.pinned (OpenSpec.ofChange admissionChecksSpec)

/-- ITS FALSE NEIGHBOUR: 'it returns false'. Refute it at one input. -/
def admissionChecksWrong : ChangeSpec := { name := "admissionChecks", fn := fun _ => fun
  | [d1, d2, d3, d4, d5] => { results := [.lit (.bool false)], args := [d1, d2, d3, d4, d5] }
  | _ => none }
def AdmissionChecksWrongFalsely : Prop := admissionChecksRow.holds Try.pinned (OpenSpec.ofChange admissionChecksWrong)

/-- 'drumlinlaw32.AdmissionPuts': WHATEVER THE INPUT: true; the input reads as it did. -/
def admissionPutsSpec : ChangeSpec := { name := "admissionPuts", fn := fun _ => fun
  | [d1, d2, d3, d4, d5] => { results := [.lit (.bool true)], args := [d1, d2, d3, d4, d5] }
  | _ => none }
def admissionPutsRow : OpenClaim := { program := "ytkicciinneffcaa", sum := "51bd87e1b6b3cc237d37cbf7568576b9f85d0955fdff16665bc664a12c1b4243", func := "drumlin/drumlinlaw32.AdmissionPuts", spec := "admissionPuts", inPlace := ["internal/bytealg.IndexByteString", "internal/bytealg.IndexString"], unfollowed := true, recurses := true, named := ["internal/bytealg.MaxLen"], apart := false }
def AdmissionPutsSaid : Prop := admissionPutsRow.holds Try.pinned (OpenSpec.ofChange admissionPutsSpec)

/-- ITS FALSE NEIGHBOUR: 'it returns false'. Refute it at one input. -/
def admissionPutsWrong : ChangeSpec := { name := "admissionPuts", fn := fun _ => fun
  | [d1, d2, d3, d4, d5] => { results := [.lit (.bool false)], args := [d1, d2, d3, d4, d5] }
  | _ => none }
def AdmissionPutsWrongFalsely : Prop := admissionPutsRow.holds Try.pinned (OpenSpec.ofChange admissionPutsWrong)

/-- 'drumlinlaw32.AdmissionSum': WHATEVER THE INPUT: true; the input reads as it did. -/
def admissionSumSpec : ChangeSpec := { name := "admissionSum", fn := fun _ => fun
  | [d1, d2] => { results := [.lit (.bool true)], args := [d1, d2] }
  | _ => none }
def admissionSumRow : OpenClaim := { program := "ytkicciinneffcaa", sum := "51bd87e1b6b3cc237d37cbf7568576b9f85d0955fdff16665bc664a12c1b4243", func := "drumlin/drumlinlaw32.AdmissionSum", spec := "admissionSum", inPlace := ["internal/bytealg.IndexByteString", "internal/bytealg.IndexString"], unfollowed := true, recurses := true, named := ["internal/bytealg.MaxLen"], apart := false }
def AdmissionSumSaid : Prop := admissionSumRow.holds Try.pinned (OpenSpec.ofChange admissionSumSpec)

/-- ITS FALSE NEIGHBOUR: 'it returns false'. Refute it at one input. -/
def admissionSumWrong : ChangeSpec := { name := "admissionSum", fn := fun _ => fun
  | [d1, d2] => { results := [.lit (.bool false)], args := [d1, d2] }
  | _ => none }
def AdmissionSumWrongFalsely : Prop := admissionSumRow.holds Try.pinned (OpenSpec.ofChange admissionSumWrong)

/-- 'drumlinlaw32.AdmissionLess': WHATEVER THE INPUT: true; the input reads as it did. -/
def admissionLessSpec : ChangeSpec := { name := "admissionLess", fn := fun _ => fun
  | [d1, d2, d3, d4, d5, d6, d7, d8] => { results := [.lit (.bool true)], args := [d1, d2, d3, d4, d5, d6, d7, d8] }
  | _ => none }
def admissionLessRow : OpenClaim := { program := "ytkicciinneffcaa", sum := "51bd87e1b6b3cc237d37cbf7568576b9f85d0955fdff16665bc664a12c1b4243", func := "drumlin/drumlinlaw32.AdmissionLess", spec := "admissionLess", inPlace := ["internal/bytealg.IndexByteString", "internal/bytealg.IndexString"], unfollowed := true, recurses := true, named := ["internal/bytealg.MaxLen"], apart := false }
def AdmissionLessSaid : Prop := admissionLessRow.holds Try.pinned (OpenSpec.ofChange admissionLessSpec)

/-- ITS FALSE NEIGHBOUR: 'it returns false'. Refute it at one input. -/
def admissionLessWrong : ChangeSpec := { name := "admissionLess", fn := fun _ => fun
  | [d1, d2, d3, d4, d5, d6, d7, d8] => { results := [.lit (.bool false)], args := [d1, d2, d3, d4, d5, d6, d7, d8] }
  | _ => none }
def AdmissionLessWrongFalsely : Prop := admissionLessRow.holds Try.pinned (OpenSpec.ofChange admissionLessWrong)

/-- 'drumlinlaw32.AdmissionLarge': WHATEVER THE INPUT: true; the input reads as it did. -/
def admissionLargeSpec : ChangeSpec := { name := "admissionLarge", fn := fun _ => fun
  | [d1, d2, d3] => { results := [.lit (.bool true)], args := [d1, d2, d3] }
  | _ => none }
def admissionLargeRow : OpenClaim := { program := "ytkicciinneffcaa", sum := "51bd87e1b6b3cc237d37cbf7568576b9f85d0955fdff16665bc664a12c1b4243", func := "drumlin/drumlinlaw32.AdmissionLarge", spec := "admissionLarge", inPlace := ["internal/bytealg.IndexByteString", "internal/bytealg.IndexString"], unfollowed := true, recurses := true, named := ["internal/bytealg.MaxLen"], apart := false }
def AdmissionLargeSaid : Prop := admissionLargeRow.holds Try.pinned (OpenSpec.ofChange admissionLargeSpec)

/-- ITS FALSE NEIGHBOUR: 'it returns false'. Refute it at one input. -/
def admissionLargeWrong : ChangeSpec := { name := "admissionLarge", fn := fun _ => fun
  | [d1, d2, d3] => { results := [.lit (.bool false)], args := [d1, d2, d3] }
  | _ => none }
def AdmissionLargeWrongFalsely : Prop := admissionLargeRow.holds Try.pinned (OpenSpec.ofChange admissionLargeWrong)

/-- 'drumlinlaw32.AdmissionRefuses': WHATEVER THE INPUT: true; the input reads as it did. -/
def admissionRefusesSpec : ChangeSpec := { name := "admissionRefuses", fn := fun _ => fun
  | [d1, d2, d3] => { results := [.lit (.bool true)], args := [d1, d2, d3] }
  | _ => none }
def admissionRefusesRow : OpenClaim := { program := "ytkicciinneffcaa", sum := "51bd87e1b6b3cc237d37cbf7568576b9f85d0955fdff16665bc664a12c1b4243", func := "drumlin/drumlinlaw32.AdmissionRefuses", spec := "admissionRefuses", inPlace := ["internal/bytealg.IndexByteString", "internal/bytealg.IndexString"], unfollowed := true, recurses := true, named := ["internal/bytealg.MaxLen"], apart := false }
def AdmissionRefusesSaid : Prop := admissionRefusesRow.holds Try.pinned (OpenSpec.ofChange admissionRefusesSpec)

/-- ITS FALSE NEIGHBOUR: 'it returns false'. Refute it at one input. -/
def admissionRefusesWrong : ChangeSpec := { name := "admissionRefuses", fn := fun _ => fun
  | [d1, d2, d3] => { results := [.lit (.bool false)], args := [d1, d2, d3] }
  | _ => none }
def AdmissionRefusesWrongFalsely : Prop := admissionRefusesRow.holds Try.pinned (OpenSpec.ofChange admissionRefusesWrong)

/-- 'drumlinlaw32.AdmissionKnown': WHATEVER THE INPUT: true; the input reads as it did. -/
def admissionKnownSpec : ChangeSpec := { name := "admissionKnown", fn := fun _ => fun
  | [] => { results := [.lit (.bool true)], args := [] }
  | _ => none }
def admissionKnownRow : OpenClaim := { program := "ytkicciinneffcaa", sum := "51bd87e1b6b3cc237d37cbf7568576b9f85d0955fdff16665bc664a12c1b4243", func := "drumlin/drumlinlaw32.AdmissionKnown", spec := "admissionKnown", inPlace := ["internal/bytealg.IndexByteString", "internal/bytealg.IndexString"], unfollowed := true, recurses := true, named := ["internal/bytealg.MaxLen"], apart := false }
def AdmissionKnownSaid : Prop := admissionKnownRow.holds Try.pinned (OpenSpec.ofChange admissionKnownSpec)

/-- ITS FALSE NEIGHBOUR: 'it returns false'. Refute it at one input. -/
def admissionKnownWrong : ChangeSpec := { name := "admissionKnown", fn := fun _ => fun
  | [] => { results := [.lit (.bool false)], args := [] }
  | _ => none }
def AdmissionKnownWrongFalsely : Prop := admissionKnownRow.holds Try.pinned (OpenSpec.ofChange admissionKnownWrong)

/- THE SECOND FORM. 'bulk': how many values and letters a reading holds, each counted each time it is reached (what is shared counts as often as it is met; a slice's spare places count too). A statement '..UptoSaid' is the law's where the arguments, and the package variables that the reading takes, are together of bulk at most 1048576: NARROWER than '..Said'. Prove '..Said' where nothing that the law and all that it calls make is longer than what came in: it says more and counts as full. Else prove '..UptoSaid'. A law counts once. -/
mutual
def uptoBulk {H : Type} : DataW H → Nat
  | .lit (.string bytes) => bytes.length + 1
  | .lit _ => 1
  | .nil => 1
  | .ptr d => uptoBulk d + 1
  | .slice elems spare => uptoBulkAll elems + uptoBulkAll spare + 1
  | .agg parts => uptoBulkAll parts + 1
  | .iface _ d => uptoBulk d + 1
  | .map entries => uptoBulkEntries entries + 1
  | .held _ => 1
def uptoBulkAll {H : Type} : List (DataW H) → Nat
  | [] => 0
  | d :: r => uptoBulk d + uptoBulkAll r
def uptoBulkEntries {H : Type} : List (Lit × DataW H) → Nat
  | [] => 0
  | x :: r => uptoBulkEntry x + uptoBulkEntries r
def uptoBulkEntry {H : Type} : Lit × DataW H → Nat
  | (.string bytes, d) => bytes.length + uptoBulk d + 1
  | (_, d) => uptoBulk d + 1
 end
def uptoSmall : (H : Type) → List (DataW H) → Bool := fun _ ds => decide (uptoBulkAll ds ≤ 1048576)
def OpenSpec.upto (s : _root_.Go.ChangeSpec) : _root_.Go.OpenSpec := { _root_.Go.OpenSpec.ofChange s with cond := some uptoSmall }

/-- 'drumlinlaw32.AdmissionChecks', WHERE WHAT IT READS IS OF BULK AT MOST 1048576: true; the input reads as it did. -/
def admissionChecksUptoRow : OpenClaim := { program := "ytkicciinneffcaa", sum := "51bd87e1b6b3cc237d37cbf7568576b9f85d0955fdff16665bc664a12c1b4243", func := "drumlin/drumlinlaw32.AdmissionChecks", spec := "admissionChecks", inPlace := ["internal/bytealg.IndexByteString", "internal/bytealg.IndexString"], unfollowed := true, recurses := true, named := ["internal/bytealg.MaxLen"], apart := false, narrowed := true }
def AdmissionChecksUptoSaid : Prop := admissionChecksUptoRow.holds Try.pinned (OpenSpec.upto admissionChecksSpec)

/-- 'drumlinlaw32.AdmissionPuts', WHERE WHAT IT READS IS OF BULK AT MOST 1048576: true; the input reads as it did. -/
def admissionPutsUptoRow : OpenClaim := { program := "ytkicciinneffcaa", sum := "51bd87e1b6b3cc237d37cbf7568576b9f85d0955fdff16665bc664a12c1b4243", func := "drumlin/drumlinlaw32.AdmissionPuts", spec := "admissionPuts", inPlace := ["internal/bytealg.IndexByteString", "internal/bytealg.IndexString"], unfollowed := true, recurses := true, named := ["internal/bytealg.MaxLen"], apart := false, narrowed := true }
def AdmissionPutsUptoSaid : Prop := admissionPutsUptoRow.holds Try.pinned (OpenSpec.upto admissionPutsSpec)

/-- 'drumlinlaw32.AdmissionSum', WHERE WHAT IT READS IS OF BULK AT MOST 1048576: true; the input reads as it did. -/
def admissionSumUptoRow : OpenClaim := { program := "ytkicciinneffcaa", sum := "51bd87e1b6b3cc237d37cbf7568576b9f85d0955fdff16665bc664a12c1b4243", func := "drumlin/drumlinlaw32.AdmissionSum", spec := "admissionSum", inPlace := ["internal/bytealg.IndexByteString", "internal/bytealg.IndexString"], unfollowed := true, recurses := true, named := ["internal/bytealg.MaxLen"], apart := false, narrowed := true }
def AdmissionSumUptoSaid : Prop := admissionSumUptoRow.holds Try.pinned (OpenSpec.upto admissionSumSpec)

/-- 'drumlinlaw32.AdmissionLess', WHERE WHAT IT READS IS OF BULK AT MOST 1048576: true; the input reads as it did. -/
def admissionLessUptoRow : OpenClaim := { program := "ytkicciinneffcaa", sum := "51bd87e1b6b3cc237d37cbf7568576b9f85d0955fdff16665bc664a12c1b4243", func := "drumlin/drumlinlaw32.AdmissionLess", spec := "admissionLess", inPlace := ["internal/bytealg.IndexByteString", "internal/bytealg.IndexString"], unfollowed := true, recurses := true, named := ["internal/bytealg.MaxLen"], apart := false, narrowed := true }
def AdmissionLessUptoSaid : Prop := admissionLessUptoRow.holds Try.pinned (OpenSpec.upto admissionLessSpec)

/-- 'drumlinlaw32.AdmissionLarge', WHERE WHAT IT READS IS OF BULK AT MOST 1048576: true; the input reads as it did. -/
def admissionLargeUptoRow : OpenClaim := { program := "ytkicciinneffcaa", sum := "51bd87e1b6b3cc237d37cbf7568576b9f85d0955fdff16665bc664a12c1b4243", func := "drumlin/drumlinlaw32.AdmissionLarge", spec := "admissionLarge", inPlace := ["internal/bytealg.IndexByteString", "internal/bytealg.IndexString"], unfollowed := true, recurses := true, named := ["internal/bytealg.MaxLen"], apart := false, narrowed := true }
def AdmissionLargeUptoSaid : Prop := admissionLargeUptoRow.holds Try.pinned (OpenSpec.upto admissionLargeSpec)

/-- 'drumlinlaw32.AdmissionRefuses', WHERE WHAT IT READS IS OF BULK AT MOST 1048576: true; the input reads as it did. -/
def admissionRefusesUptoRow : OpenClaim := { program := "ytkicciinneffcaa", sum := "51bd87e1b6b3cc237d37cbf7568576b9f85d0955fdff16665bc664a12c1b4243", func := "drumlin/drumlinlaw32.AdmissionRefuses", spec := "admissionRefuses", inPlace := ["internal/bytealg.IndexByteString", "internal/bytealg.IndexString"], unfollowed := true, recurses := true, named := ["internal/bytealg.MaxLen"], apart := false, narrowed := true }
def AdmissionRefusesUptoSaid : Prop := admissionRefusesUptoRow.holds Try.pinned (OpenSpec.upto admissionRefusesSpec)

/-- 'drumlinlaw32.AdmissionKnown', WHERE WHAT IT READS IS OF BULK AT MOST 1048576: true; the input reads as it did. -/
def admissionKnownUptoRow : OpenClaim := { program := "ytkicciinneffcaa", sum := "51bd87e1b6b3cc237d37cbf7568576b9f85d0955fdff16665bc664a12c1b4243", func := "drumlin/drumlinlaw32.AdmissionKnown", spec := "admissionKnown", inPlace := ["internal/bytealg.IndexByteString", "internal/bytealg.IndexString"], unfollowed := true, recurses := true, named := ["internal/bytealg.MaxLen"], apart := false, narrowed := true }
def AdmissionKnownUptoSaid : Prop := admissionKnownUptoRow.holds Try.pinned (OpenSpec.upto admissionKnownSpec)

end Rows
end Go.Proofs.Ytkicciinneffcaa
