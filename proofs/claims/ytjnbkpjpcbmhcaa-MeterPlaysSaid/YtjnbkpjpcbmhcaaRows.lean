/-
  No cell of these rows narrows 'for every input' (looked for: loops, veiled, ifaces, maps, wideKeys, modest, calm, conditions, laid).
  DERIVED. THE GIVEN ROWS OF THIS SEAT. 7 by the template 'for every input the law returns true; each argument reads behind the call as it read before'; 0 by the template 'total and deterministic' (their statements: YtjnbkpjpcbmhcaaTotals.lean).
  GIVEN WITH THE SEED: the statements are not yours to turn. If you find one false, say at which input.
  Laid BY PROGRAM, IN A SANDBOX (cutbox-rows.mjs): the forced cells as the released guide's own fill.sh prints them over the translation ee09e5a9ae914ff8… (all of the seat's roots in one cut). By AI agents, Wed Nov 11 2026. No macro, syntax, notation, axiom, sorry.
-/
import Derived.Test.YtjnbkpjpcbmhcaaChecked
import GoSem.Claim
import GoSem.ClaimJoined
import GoSem.ClaimMapViews
import Derived.JoinedTies
import Derived.KernelRfl
namespace Go.Proofs.Ytjnbkpjpcbmhcaa
/- THE CELL 'sum', in the pinned program and in every row, IS THE sha256 OF THE DUMP (.gsa) THAT YtjnbkpjpcbmhcaaProg.lean LOADS. Nothing in Lean hashes anything: it is a label: what it is worth is what the hold of that sum in a sandbox is worth. -/
noncomputable def Try.pinned : Pinned := { name := "ytjnbkpjpcbmhcaa", sum := "ee09e5a9ae914ff847ea7340c4929f61d9e819c02d40e8b5841aa05a6cec16a2", checked := Try.checked }
namespace Rows
def none {H : Type} : Left H := { results := [], args := [] }

/-- 'drumlinlaw37.MeterAllowed': WHATEVER THE INPUT: true; the input reads as it did. -/
def meterAllowedSpec : ChangeSpec := { name := "meterAllowed", fn := fun _ => fun
  | [d] => { results := [.lit (.bool true)], args := [d] }
  | _ => none }
def meterAllowedRow : OpenClaim := { program := "ytjnbkpjpcbmhcaa", sum := "ee09e5a9ae914ff847ea7340c4929f61d9e819c02d40e8b5841aa05a6cec16a2", func := "drumlin/drumlinlaw37.MeterAllowed", spec := "meterAllowed", unfollowed := true, recurses := true, apart := false }
def MeterAllowedSaid : Prop := meterAllowedRow.holds Try.pinned (OpenSpec.ofChange meterAllowedSpec)

/-- ITS FALSE NEIGHBOUR: 'it returns false'. Refute it at one input. -/
def meterAllowedWrong : ChangeSpec := { name := "meterAllowed", fn := fun _ => fun
  | [d] => { results := [.lit (.bool false)], args := [d] }
  | _ => none }
def MeterAllowedWrongFalsely : Prop := meterAllowedRow.holds Try.pinned (OpenSpec.ofChange meterAllowedWrong)

/-- 'drumlinlaw37.MeterSums': WHATEVER THE INPUT: true; the input reads as it did. -/
def meterSumsSpec : ChangeSpec := { name := "meterSums", fn := fun _ => fun
  | [d] => { results := [.lit (.bool true)], args := [d] }
  | _ => none }
def meterSumsRow : OpenClaim := { program := "ytjnbkpjpcbmhcaa", sum := "ee09e5a9ae914ff847ea7340c4929f61d9e819c02d40e8b5841aa05a6cec16a2", func := "drumlin/drumlinlaw37.MeterSums", spec := "meterSums", unfollowed := true, recurses := true, apart := false }
def MeterSumsSaid : Prop := meterSumsRow.holds Try.pinned (OpenSpec.ofChange meterSumsSpec)

/-- ITS FALSE NEIGHBOUR: 'it returns false'. Refute it at one input. -/
def meterSumsWrong : ChangeSpec := { name := "meterSums", fn := fun _ => fun
  | [d] => { results := [.lit (.bool false)], args := [d] }
  | _ => none }
def MeterSumsWrongFalsely : Prop := meterSumsRow.holds Try.pinned (OpenSpec.ofChange meterSumsWrong)

/-- 'drumlinlaw37.MeterLimit': WHATEVER THE INPUT: true; the input reads as it did. -/
def meterLimitSpec : ChangeSpec := { name := "meterLimit", fn := fun _ => fun
  | [d1, d2, d3] => { results := [.lit (.bool true)], args := [d1, d2, d3] }
  | _ => none }
def meterLimitRow : OpenClaim := { program := "ytjnbkpjpcbmhcaa", sum := "ee09e5a9ae914ff847ea7340c4929f61d9e819c02d40e8b5841aa05a6cec16a2", func := "drumlin/drumlinlaw37.MeterLimit", spec := "meterLimit", unfollowed := true, recurses := true, apart := false }
def MeterLimitSaid : Prop := meterLimitRow.holds Try.pinned (OpenSpec.ofChange meterLimitSpec)

/-- ITS FALSE NEIGHBOUR: 'it returns false'. Refute it at one input. -/
def meterLimitWrong : ChangeSpec := { name := "meterLimit", fn := fun _ => fun
  | [d1, d2, d3] => { results := [.lit (.bool false)], args := [d1, d2, d3] }
  | _ => none }
def MeterLimitWrongFalsely : Prop := meterLimitRow.holds Try.pinned (OpenSpec.ofChange meterLimitWrong)

/-- 'drumlinlaw37.MeterAllows': WHATEVER THE INPUT: true; the input reads as it did. -/
def meterAllowsSpec : ChangeSpec := { name := "meterAllows", fn := fun _ => fun
  | [d] => { results := [.lit (.bool true)], args := [d] }
  | _ => none }
def meterAllowsRow : OpenClaim := { program := "ytjnbkpjpcbmhcaa", sum := "ee09e5a9ae914ff847ea7340c4929f61d9e819c02d40e8b5841aa05a6cec16a2", func := "drumlin/drumlinlaw37.MeterAllows", spec := "meterAllows", unfollowed := true, recurses := true, apart := false }
def MeterAllowsSaid : Prop := meterAllowsRow.holds Try.pinned (OpenSpec.ofChange meterAllowsSpec)

/-- ITS FALSE NEIGHBOUR: 'it returns false'. Refute it at one input. -/
def meterAllowsWrong : ChangeSpec := { name := "meterAllows", fn := fun _ => fun
  | [d] => { results := [.lit (.bool false)], args := [d] }
  | _ => none }
def MeterAllowsWrongFalsely : Prop := meterAllowsRow.holds Try.pinned (OpenSpec.ofChange meterAllowsWrong)

/-- 'drumlinlaw37.MeterPlays': WHATEVER THE INPUT: true; the input reads as it did. -/
def meterPlaysSpec : ChangeSpec := { name := "meterPlays", fn := fun _ => fun
  | [d] => { results := [.lit (.bool true)], args := [d] }
  | _ => none }
def meterPlaysRow : OpenClaim := { program := "ytjnbkpjpcbmhcaa", sum := "ee09e5a9ae914ff847ea7340c4929f61d9e819c02d40e8b5841aa05a6cec16a2", func := "drumlin/drumlinlaw37.MeterPlays", spec := "meterPlays", unfollowed := true, recurses := true, apart := false }
def MeterPlaysSaid : Prop := meterPlaysRow.holds Try.pinned (OpenSpec.ofChange meterPlaysSpec)

/-- ITS FALSE NEIGHBOUR: 'it returns false'. Refute it at one input. -/
def meterPlaysWrong : ChangeSpec := { name := "meterPlays", fn := fun _ => fun
  | [d] => { results := [.lit (.bool false)], args := [d] }
  | _ => none }
def MeterPlaysWrongFalsely : Prop := meterPlaysRow.holds Try.pinned (OpenSpec.ofChange meterPlaysWrong)

/-- 'drumlinlaw37.MeterApart': WHATEVER THE INPUT: true; the input reads as it did. -/
def meterApartSpec : ChangeSpec := { name := "meterApart", fn := fun _ => fun
  | [d1, d2] => { results := [.lit (.bool true)], args := [d1, d2] }
  | _ => none }
def meterApartRow : OpenClaim := { program := "ytjnbkpjpcbmhcaa", sum := "ee09e5a9ae914ff847ea7340c4929f61d9e819c02d40e8b5841aa05a6cec16a2", func := "drumlin/drumlinlaw37.MeterApart", spec := "meterApart", unfollowed := true, recurses := true, apart := false }
def MeterApartSaid : Prop := meterApartRow.holds Try.pinned (OpenSpec.ofChange meterApartSpec)

/-- ITS FALSE NEIGHBOUR: 'it returns false'. Refute it at one input. -/
def meterApartWrong : ChangeSpec := { name := "meterApart", fn := fun _ => fun
  | [d1, d2] => { results := [.lit (.bool false)], args := [d1, d2] }
  | _ => none }
def MeterApartWrongFalsely : Prop := meterApartRow.holds Try.pinned (OpenSpec.ofChange meterApartWrong)

/-- 'drumlinlaw37.MeterNil': WHATEVER THE INPUT: true; the input reads as it did. -/
def meterNilSpec : ChangeSpec := { name := "meterNil", fn := fun _ => fun
  | [d] => { results := [.lit (.bool true)], args := [d] }
  | _ => none }
def meterNilRow : OpenClaim := { program := "ytjnbkpjpcbmhcaa", sum := "ee09e5a9ae914ff847ea7340c4929f61d9e819c02d40e8b5841aa05a6cec16a2", func := "drumlin/drumlinlaw37.MeterNil", spec := "meterNil", unfollowed := true, recurses := true, apart := false }
def MeterNilSaid : Prop := meterNilRow.holds Try.pinned (OpenSpec.ofChange meterNilSpec)

/-- ITS FALSE NEIGHBOUR: 'it returns false'. Refute it at one input. -/
def meterNilWrong : ChangeSpec := { name := "meterNil", fn := fun _ => fun
  | [d] => { results := [.lit (.bool false)], args := [d] }
  | _ => none }
def MeterNilWrongFalsely : Prop := meterNilRow.holds Try.pinned (OpenSpec.ofChange meterNilWrong)

/- THE SECOND FORM. 'bulk': how many values and letters a reading holds, each counted each time it is reached (what is shared counts as often as it is met; a slice's spare places count too). A statement '..UptoSaid' is the law's where the arguments, and the package variables that the reading takes, are together of bulk at most 1048576: NARROWER than '..Said'. Prove '..Said' where nothing that the law and all that it calls make is longer than what came in: it says more and counts as full. Else prove '..UptoSaid'. A law counts once. -/
mutual
def uptoBulk {H : Type} : DataW H → Nat
  | .lit (.string bytes) => bytes.length + 1
  | .lit _ => 1
  | .nil => 1
  | .ptr d => uptoBulk d + 1
  | .slice elems spare => uptoBulkAll elems + uptoBulkAll spare + 1
  | .agg parts => uptoBulkAll parts + 1
  | .iface _ d => uptoBulk d + 1
  | .map entries => uptoBulkEntries entries + 1
  | .held _ => 1
def uptoBulkAll {H : Type} : List (DataW H) → Nat
  | [] => 0
  | d :: r => uptoBulk d + uptoBulkAll r
def uptoBulkEntries {H : Type} : List (Lit × DataW H) → Nat
  | [] => 0
  | x :: r => uptoBulkEntry x + uptoBulkEntries r
def uptoBulkEntry {H : Type} : Lit × DataW H → Nat
  | (.string bytes, d) => bytes.length + uptoBulk d + 1
  | (_, d) => uptoBulk d + 1
 end
def uptoSmall : (H : Type) → List (DataW H) → Bool := fun _ ds => decide (uptoBulkAll ds ≤ 1048576)
def OpenSpec.upto (s : _root_.Go.ChangeSpec) : _root_.Go.OpenSpec := { _root_.Go.OpenSpec.ofChange s with cond := some uptoSmall }

/-- 'drumlinlaw37.MeterAllowed', WHERE WHAT IT READS IS OF BULK AT MOST 1048576: true; the input reads as it did. -/
def meterAllowedUptoRow : OpenClaim := { program := "ytjnbkpjpcbmhcaa", sum := "ee09e5a9ae914ff847ea7340c4929f61d9e819c02d40e8b5841aa05a6cec16a2", func := "drumlin/drumlinlaw37.MeterAllowed", spec := "meterAllowed", unfollowed := true, recurses := true, apart := false, narrowed := true }
def MeterAllowedUptoSaid : Prop := meterAllowedUptoRow.holds Try.pinned (OpenSpec.upto meterAllowedSpec)

/-- 'drumlinlaw37.MeterSums', WHERE WHAT IT READS IS OF BULK AT MOST 1048576: true; the input reads as it did. -/
def meterSumsUptoRow : OpenClaim := { program := "ytjnbkpjpcbmhcaa", sum := "ee09e5a9ae914ff847ea7340c4929f61d9e819c02d40e8b5841aa05a6cec16a2", func := "drumlin/drumlinlaw37.MeterSums", spec := "meterSums", unfollowed := true, recurses := true, apart := false, narrowed := true }
def MeterSumsUptoSaid : Prop := meterSumsUptoRow.holds Try.pinned (OpenSpec.upto meterSumsSpec)

/-- 'drumlinlaw37.MeterLimit', WHERE WHAT IT READS IS OF BULK AT MOST 1048576: true; the input reads as it did. -/
def meterLimitUptoRow : OpenClaim := { program := "ytjnbkpjpcbmhcaa", sum := "ee09e5a9ae914ff847ea7340c4929f61d9e819c02d40e8b5841aa05a6cec16a2", func := "drumlin/drumlinlaw37.MeterLimit", spec := "meterLimit", unfollowed := true, recurses := true, apart := false, narrowed := true }
def MeterLimitUptoSaid : Prop := meterLimitUptoRow.holds Try.pinned (OpenSpec.upto meterLimitSpec)

/-- 'drumlinlaw37.MeterAllows', WHERE WHAT IT READS IS OF BULK AT MOST 1048576: true; the input reads as it did. -/
def meterAllowsUptoRow : OpenClaim := { program := "ytjnbkpjpcbmhcaa", sum := "ee09e5a9ae914ff847ea7340c4929f61d9e819c02d40e8b5841aa05a6cec16a2", func := "drumlin/drumlinlaw37.MeterAllows", spec := "meterAllows", unfollowed := true, recurses := true, apart := false, narrowed := true }
def MeterAllowsUptoSaid : Prop := meterAllowsUptoRow.holds Try.pinned (OpenSpec.upto meterAllowsSpec)

/-- 'drumlinlaw37.MeterPlays', WHERE WHAT IT READS IS OF BULK AT MOST 1048576: true; the input reads as it did. -/
def meterPlaysUptoRow : OpenClaim := { program := "ytjnbkpjpcbmhcaa", sum := "ee09e5a9ae914ff847ea7340c4929f61d9e819c02d40e8b5841aa05a6cec16a2", func := "drumlin/drumlinlaw37.MeterPlays", spec := "meterPlays", unfollowed := true, recurses := true, apart := false, narrowed := true }
def MeterPlaysUptoSaid : Prop := meterPlaysUptoRow.holds Try.pinned (OpenSpec.upto meterPlaysSpec)

/-- 'drumlinlaw37.MeterApart', WHERE WHAT IT READS IS OF BULK AT MOST 1048576: true; the input reads as it did. -/
def meterApartUptoRow : OpenClaim := { program := "ytjnbkpjpcbmhcaa", sum := "ee09e5a9ae914ff847ea7340c4929f61d9e819c02d40e8b5841aa05a6cec16a2", func := "drumlin/drumlinlaw37.MeterApart", spec := "meterApart", unfollowed := true, recurses := true, apart := false, narrowed := true }
def MeterApartUptoSaid : Prop := meterApartUptoRow.holds Try.pinned (OpenSpec.upto meterApartSpec)

/-- 'drumlinlaw37.MeterNil', WHERE WHAT IT READS IS OF BULK AT MOST 1048576: true; the input reads as it did. -/
def meterNilUptoRow : OpenClaim := { program := "ytjnbkpjpcbmhcaa", sum := "ee09e5a9ae914ff847ea7340c4929f61d9e819c02d40e8b5841aa05a6cec16a2", func := "drumlin/drumlinlaw37.MeterNil", spec := "meterNil", unfollowed := true, recurses := true, apart := false, narrowed := true }
def MeterNilUptoSaid : Prop := meterNilUptoRow.holds Try.pinned (OpenSpec.upto meterNilSpec)

end Rows
end Go.Proofs.Ytjnbkpjpcbmhcaa
