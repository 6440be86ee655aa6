/-
  NARROWER THAN 'FOR EVERY INPUT', by the rows' own cells (each row's printed sentence says how): RoundNil: laid · RoundPlays: laid · RoundOnce: laid · RoundRefuses: laid · RoundCopies: laid.
  DERIVED. THE GIVEN ROWS OF THIS SEAT. 5 by the template 'for every input the law returns true; each argument reads behind the call as it read before'; 0 by the template 'total and deterministic' (their statements: YtaidekdmhmoaeaaDoorTotals.lean).
  GIVEN WITH THE SEED: the statements are not yours to turn. If you find one false, say at which input.
  Laid BY PROGRAM, IN A SANDBOX (cutbox-rows.mjs): the forced cells as the released guide's own fill.sh prints them over the translation 8f8c6c24da749484… (all of the seat's roots in one cut). By AI agents, Wed Nov 11 2026. No macro, syntax, notation, axiom, sorry.
-/
import Derived.Test.YtaidekdmhmoaeaaDoorChecked
import GoSem.Claim
import GoSem.ClaimJoined
import GoSem.ClaimMapViews
import Derived.JoinedTies
import Derived.KernelRfl
namespace Go.Proofs.YtaidekdmhmoaeaaDoor
/- THE CELL 'sum', in the pinned program and in every row, IS THE sha256 OF THE DUMP (.gsa) THAT YtaidekdmhmoaeaaDoorProg.lean LOADS. Nothing in Lean hashes anything: it is a label: what it is worth is what the hold of that sum in a sandbox is worth. -/
noncomputable def Tryd.pinned : Pinned := { name := "ytaidekdmhmoaeaadoor", sum := "8f8c6c24da7494847ee45a928c4eea7111876664cccd86b4671bb6ecc058b5d6", checked := Tryd.checked }
namespace Rows
def none {H : Type} : Left H := { results := [], args := [] }

/- WHAT THE LISTED PACKAGE-LEVEL VARIABLES READ AS WHEN THE CALL BEGINS. Each datum BY PROGRAM (the guide's laid-datum.mjs) off the statement by which the dump's own 'gosem.cut.vars' lays the variable. In a bare row this is a premise. The card (YtaidekdmhmoaeaaDoorCards.lean) ties it to the program's text. -/
def laid_math_bits_deBruijn32tab {H : Type} : DataW H := .agg [.lit (.int .u8 0), .lit (.int .u8 1), .lit (.int .u8 28), .lit (.int .u8 2), .lit (.int .u8 29), .lit (.int .u8 14), .lit (.int .u8 24), .lit (.int .u8 3), .lit (.int .u8 30), .lit (.int .u8 22), .lit (.int .u8 20), .lit (.int .u8 15), .lit (.int .u8 25), .lit (.int .u8 17), .lit (.int .u8 4), .lit (.int .u8 8), .lit (.int .u8 31), .lit (.int .u8 27), .lit (.int .u8 13), .lit (.int .u8 23), .lit (.int .u8 21), .lit (.int .u8 19), .lit (.int .u8 16), .lit (.int .u8 7), .lit (.int .u8 26), .lit (.int .u8 12), .lit (.int .u8 18), .lit (.int .u8 6), .lit (.int .u8 11), .lit (.int .u8 5), .lit (.int .u8 10), .lit (.int .u8 9)]

/-- 'drumlinlaw27.RoundNil': WHATEVER THE INPUT: true; the input reads as it did. -/
def roundNilSpec : ChangeSpec := { name := "roundNil", fn := fun _ => fun
  | [d1, d2] => { results := [.lit (.bool true)], args := [d1, d2] }
  | _ => none }
def roundNilRow : OpenClaim := { program := "ytaidekdmhmoaeaadoor", sum := "8f8c6c24da7494847ee45a928c4eea7111876664cccd86b4671bb6ecc058b5d6", func := "drumlin/drumlinlaw27.RoundNil", spec := "roundNil", unfollowed := true, recurses := true, named := ["math/bits.deBruijn32tab"], apart := false, laid := [("math/bits.deBruijn32tab", laid_math_bits_deBruijn32tab)] }
def RoundNilSaid : Prop := roundNilRow.holds Tryd.pinned (OpenSpec.ofChange roundNilSpec)

/-- ITS FALSE NEIGHBOUR: 'it returns false'. Refute it at one input. -/
def roundNilWrong : ChangeSpec := { name := "roundNil", fn := fun _ => fun
  | [d1, d2] => { results := [.lit (.bool false)], args := [d1, d2] }
  | _ => none }
def RoundNilWrongFalsely : Prop := roundNilRow.holds Tryd.pinned (OpenSpec.ofChange roundNilWrong)

/-- 'drumlinlaw27.RoundPlays': WHATEVER THE INPUT: true; the input reads as it did. -/
def roundPlaysSpec : ChangeSpec := { name := "roundPlays", fn := fun _ => fun
  | [d1, d2, d3] => { results := [.lit (.bool true)], args := [d1, d2, d3] }
  | _ => none }
def roundPlaysRow : OpenClaim := { program := "ytaidekdmhmoaeaadoor", sum := "8f8c6c24da7494847ee45a928c4eea7111876664cccd86b4671bb6ecc058b5d6", func := "drumlin/drumlinlaw27.RoundPlays", spec := "roundPlays", unfollowed := true, recurses := true, named := ["math/bits.deBruijn32tab"], apart := false, laid := [("math/bits.deBruijn32tab", laid_math_bits_deBruijn32tab)] }
def RoundPlaysSaid : Prop := roundPlaysRow.holds Tryd.pinned (OpenSpec.ofChange roundPlaysSpec)

/-- ITS FALSE NEIGHBOUR: 'it returns false'. Refute it at one input. -/
def roundPlaysWrong : ChangeSpec := { name := "roundPlays", fn := fun _ => fun
  | [d1, d2, d3] => { results := [.lit (.bool false)], args := [d1, d2, d3] }
  | _ => none }
def RoundPlaysWrongFalsely : Prop := roundPlaysRow.holds Tryd.pinned (OpenSpec.ofChange roundPlaysWrong)

/-- 'drumlinlaw27.RoundOnce': WHATEVER THE INPUT: true; the input reads as it did. -/
def roundOnceSpec : ChangeSpec := { name := "roundOnce", fn := fun _ => fun
  | [d1, d2, d3] => { results := [.lit (.bool true)], args := [d1, d2, d3] }
  | _ => none }
def roundOnceRow : OpenClaim := { program := "ytaidekdmhmoaeaadoor", sum := "8f8c6c24da7494847ee45a928c4eea7111876664cccd86b4671bb6ecc058b5d6", func := "drumlin/drumlinlaw27.RoundOnce", spec := "roundOnce", unfollowed := true, recurses := true, named := ["math/bits.deBruijn32tab"], apart := false, laid := [("math/bits.deBruijn32tab", laid_math_bits_deBruijn32tab)] }
def RoundOnceSaid : Prop := roundOnceRow.holds Tryd.pinned (OpenSpec.ofChange roundOnceSpec)

/-- ITS FALSE NEIGHBOUR: 'it returns false'. Refute it at one input. -/
def roundOnceWrong : ChangeSpec := { name := "roundOnce", fn := fun _ => fun
  | [d1, d2, d3] => { results := [.lit (.bool false)], args := [d1, d2, d3] }
  | _ => none }
def RoundOnceWrongFalsely : Prop := roundOnceRow.holds Tryd.pinned (OpenSpec.ofChange roundOnceWrong)

/-- 'drumlinlaw27.RoundRefuses': WHATEVER THE INPUT: true; the input reads as it did. -/
def roundRefusesSpec : ChangeSpec := { name := "roundRefuses", fn := fun _ => fun
  | [d1, d2, d3, d4] => { results := [.lit (.bool true)], args := [d1, d2, d3, d4] }
  | _ => none }
def roundRefusesRow : OpenClaim := { program := "ytaidekdmhmoaeaadoor", sum := "8f8c6c24da7494847ee45a928c4eea7111876664cccd86b4671bb6ecc058b5d6", func := "drumlin/drumlinlaw27.RoundRefuses", spec := "roundRefuses", unfollowed := true, recurses := true, named := ["math/bits.deBruijn32tab"], apart := false, laid := [("math/bits.deBruijn32tab", laid_math_bits_deBruijn32tab)] }
def RoundRefusesSaid : Prop := roundRefusesRow.holds Tryd.pinned (OpenSpec.ofChange roundRefusesSpec)

/-- ITS FALSE NEIGHBOUR: 'it returns false'. Refute it at one input. -/
def roundRefusesWrong : ChangeSpec := { name := "roundRefuses", fn := fun _ => fun
  | [d1, d2, d3, d4] => { results := [.lit (.bool false)], args := [d1, d2, d3, d4] }
  | _ => none }
def RoundRefusesWrongFalsely : Prop := roundRefusesRow.holds Tryd.pinned (OpenSpec.ofChange roundRefusesWrong)

/-- 'drumlinlaw27.RoundCopies': WHATEVER THE INPUT: true; the input reads as it did. -/
def roundCopiesSpec : ChangeSpec := { name := "roundCopies", fn := fun _ => fun
  | [d1, d2, d3, d4, d5] => { results := [.lit (.bool true)], args := [d1, d2, d3, d4, d5] }
  | _ => none }
def roundCopiesRow : OpenClaim := { program := "ytaidekdmhmoaeaadoor", sum := "8f8c6c24da7494847ee45a928c4eea7111876664cccd86b4671bb6ecc058b5d6", func := "drumlin/drumlinlaw27.RoundCopies", spec := "roundCopies", unfollowed := true, recurses := true, named := ["math/bits.deBruijn32tab"], apart := false, laid := [("math/bits.deBruijn32tab", laid_math_bits_deBruijn32tab)] }
def RoundCopiesSaid : Prop := roundCopiesRow.holds Tryd.pinned (OpenSpec.ofChange roundCopiesSpec)

/-- ITS FALSE NEIGHBOUR: 'it returns false'. Refute it at one input. -/
def roundCopiesWrong : ChangeSpec := { name := "roundCopies", fn := fun _ => fun
  | [d1, d2, d3, d4, d5] => { results := [.lit (.bool false)], args := [d1, d2, d3, d4, d5] }
  | _ => none }
def RoundCopiesWrongFalsely : Prop := roundCopiesRow.holds Tryd.pinned (OpenSpec.ofChange roundCopiesWrong)

/- THE SECOND FORM. 'bulk': how many values and letters a reading holds, each counted each time it is reached (what is shared counts as often as it is met; a slice's spare places count too). A statement '..UptoSaid' is the law's where the arguments, and the package variables that the reading takes, are together of bulk at most 1048576: NARROWER than '..Said'. Prove '..Said' where nothing that the law and all that it calls make is longer than what came in: it says more and counts as full. Else prove '..UptoSaid'. A law counts once. -/
mutual
def uptoBulk {H : Type} : DataW H → Nat
  | .lit (.string bytes) => bytes.length + 1
  | .lit _ => 1
  | .nil => 1
  | .ptr d => uptoBulk d + 1
  | .slice elems spare => uptoBulkAll elems + uptoBulkAll spare + 1
  | .agg parts => uptoBulkAll parts + 1
  | .iface _ d => uptoBulk d + 1
  | .map entries => uptoBulkEntries entries + 1
  | .held _ => 1
def uptoBulkAll {H : Type} : List (DataW H) → Nat
  | [] => 0
  | d :: r => uptoBulk d + uptoBulkAll r
def uptoBulkEntries {H : Type} : List (Lit × DataW H) → Nat
  | [] => 0
  | x :: r => uptoBulkEntry x + uptoBulkEntries r
def uptoBulkEntry {H : Type} : Lit × DataW H → Nat
  | (.string bytes, d) => bytes.length + uptoBulk d + 1
  | (_, d) => uptoBulk d + 1
 end
def uptoSmall : (H : Type) → List (DataW H) → Bool := fun _ ds => decide (uptoBulkAll ds ≤ 1048576)
def OpenSpec.upto (s : _root_.Go.ChangeSpec) : _root_.Go.OpenSpec := { _root_.Go.OpenSpec.ofChange s with cond := some uptoSmall }

/-- 'drumlinlaw27.RoundNil', WHERE WHAT IT READS IS OF BULK AT MOST 1048576: true; the input reads as it did. -/
def roundNilUptoRow : OpenClaim := { program := "ytaidekdmhmoaeaadoor", sum := "8f8c6c24da7494847ee45a928c4eea7111876664cccd86b4671bb6ecc058b5d6", func := "drumlin/drumlinlaw27.RoundNil", spec := "roundNil", unfollowed := true, recurses := true, named := ["math/bits.deBruijn32tab"], apart := false, laid := [("math/bits.deBruijn32tab", laid_math_bits_deBruijn32tab)], narrowed := true }
def RoundNilUptoSaid : Prop := roundNilUptoRow.holds Tryd.pinned (OpenSpec.upto roundNilSpec)

/-- 'drumlinlaw27.RoundPlays', WHERE WHAT IT READS IS OF BULK AT MOST 1048576: true; the input reads as it did. -/
def roundPlaysUptoRow : OpenClaim := { program := "ytaidekdmhmoaeaadoor", sum := "8f8c6c24da7494847ee45a928c4eea7111876664cccd86b4671bb6ecc058b5d6", func := "drumlin/drumlinlaw27.RoundPlays", spec := "roundPlays", unfollowed := true, recurses := true, named := ["math/bits.deBruijn32tab"], apart := false, laid := [("math/bits.deBruijn32tab", laid_math_bits_deBruijn32tab)], narrowed := true }
def RoundPlaysUptoSaid : Prop := roundPlaysUptoRow.holds Tryd.pinned (OpenSpec.upto roundPlaysSpec)

/-- 'drumlinlaw27.RoundOnce', WHERE WHAT IT READS IS OF BULK AT MOST 1048576: true; the input reads as it did. -/
def roundOnceUptoRow : OpenClaim := { program := "ytaidekdmhmoaeaadoor", sum := "8f8c6c24da7494847ee45a928c4eea7111876664cccd86b4671bb6ecc058b5d6", func := "drumlin/drumlinlaw27.RoundOnce", spec := "roundOnce", unfollowed := true, recurses := true, named := ["math/bits.deBruijn32tab"], apart := false, laid := [("math/bits.deBruijn32tab", laid_math_bits_deBruijn32tab)], narrowed := true }
def RoundOnceUptoSaid : Prop := roundOnceUptoRow.holds Tryd.pinned (OpenSpec.upto roundOnceSpec)

/-- 'drumlinlaw27.RoundRefuses', WHERE WHAT IT READS IS OF BULK AT MOST 1048576: true; the input reads as it did. -/
def roundRefusesUptoRow : OpenClaim := { program := "ytaidekdmhmoaeaadoor", sum := "8f8c6c24da7494847ee45a928c4eea7111876664cccd86b4671bb6ecc058b5d6", func := "drumlin/drumlinlaw27.RoundRefuses", spec := "roundRefuses", unfollowed := true, recurses := true, named := ["math/bits.deBruijn32tab"], apart := false, laid := [("math/bits.deBruijn32tab", laid_math_bits_deBruijn32tab)], narrowed := true }
def RoundRefusesUptoSaid : Prop := roundRefusesUptoRow.holds Tryd.pinned (OpenSpec.upto roundRefusesSpec)

/-- 'drumlinlaw27.RoundCopies', WHERE WHAT IT READS IS OF BULK AT MOST 1048576: true; the input reads as it did. -/
def roundCopiesUptoRow : OpenClaim := { program := "ytaidekdmhmoaeaadoor", sum := "8f8c6c24da7494847ee45a928c4eea7111876664cccd86b4671bb6ecc058b5d6", func := "drumlin/drumlinlaw27.RoundCopies", spec := "roundCopies", unfollowed := true, recurses := true, named := ["math/bits.deBruijn32tab"], apart := false, laid := [("math/bits.deBruijn32tab", laid_math_bits_deBruijn32tab)], narrowed := true }
def RoundCopiesUptoSaid : Prop := roundCopiesUptoRow.holds Tryd.pinned (OpenSpec.upto roundCopiesSpec)

end Rows
end Go.Proofs.YtaidekdmhmoaeaaDoor
