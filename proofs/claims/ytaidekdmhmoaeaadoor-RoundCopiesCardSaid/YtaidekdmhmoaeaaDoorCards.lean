/-
  DERIVED. GIVEN WITH THE SEED: THE CARDS: each row of YtaidekdmhmoaeaaDoorRows.lean that lists a variable, with what it lists TIED to the program's text (the seventh form; the later family's looks); each row that meets fmt, with fmt's text TOLD by the authors' own Lean function (tested against real Go, not proved from fmt's source: count such statements apart). THE CARD IS WHAT COUNTS. Prove the row's statement (the work); the ties are given (YtaidekdmhmoaeaaDoorTie.lean); close each card by the builder's one call (the guide's Derived/Test/ToyasCard.lean, 'card_holds'). Laid BY PROGRAM, IN A SANDBOX (cutbox-door.mjs). By AI agents, Wed Nov 11 2026. No macro, syntax, notation, axiom, sorry.
-/
import Derived.Test.YtaidekdmhmoaeaaDoorRows
import GoSem.ClaimSeven
namespace Go.Proofs.YtaidekdmhmoaeaaDoor
namespace Rows

/-- THE TIED CARD OF 'drumlinlaw27.RoundNil'. -/
def roundNilCard : Claim7 := { stood := { row := roundNilRow, standIns := [], harness := (true, "78b4ba762495fc154c5a857764e62199e31d2c0b3599cef7315f08e2fe8f9bd5"), looks := false }, kinds := [], alts := [], laidByText := true, laidKinds := [.data], laidTests := true, laidLooks := .later }
def RoundNilCardSaid : Prop := Claim7.holds Tryd.pinned (.plain (OpenSpec.ofChange roundNilSpec)) roundNilCard

/-- THE TIED CARD OF 'drumlinlaw27.RoundPlays'. -/
def roundPlaysCard : Claim7 := { stood := { row := roundPlaysRow, standIns := [], harness := (true, "78b4ba762495fc154c5a857764e62199e31d2c0b3599cef7315f08e2fe8f9bd5"), looks := false }, kinds := [], alts := [], laidByText := true, laidKinds := [.data], laidTests := true, laidLooks := .later }
def RoundPlaysCardSaid : Prop := Claim7.holds Tryd.pinned (.plain (OpenSpec.ofChange roundPlaysSpec)) roundPlaysCard

/-- THE TIED CARD OF 'drumlinlaw27.RoundOnce'. -/
def roundOnceCard : Claim7 := { stood := { row := roundOnceRow, standIns := [], harness := (true, "78b4ba762495fc154c5a857764e62199e31d2c0b3599cef7315f08e2fe8f9bd5"), looks := false }, kinds := [], alts := [], laidByText := true, laidKinds := [.data], laidTests := true, laidLooks := .later }
def RoundOnceCardSaid : Prop := Claim7.holds Tryd.pinned (.plain (OpenSpec.ofChange roundOnceSpec)) roundOnceCard

/-- THE TIED CARD OF 'drumlinlaw27.RoundRefuses'. -/
def roundRefusesCard : Claim7 := { stood := { row := roundRefusesRow, standIns := [], harness := (true, "78b4ba762495fc154c5a857764e62199e31d2c0b3599cef7315f08e2fe8f9bd5"), looks := false }, kinds := [], alts := [], laidByText := true, laidKinds := [.data], laidTests := true, laidLooks := .later }
def RoundRefusesCardSaid : Prop := Claim7.holds Tryd.pinned (.plain (OpenSpec.ofChange roundRefusesSpec)) roundRefusesCard

/-- THE TIED CARD OF 'drumlinlaw27.RoundCopies'. -/
def roundCopiesCard : Claim7 := { stood := { row := roundCopiesRow, standIns := [], harness := (true, "78b4ba762495fc154c5a857764e62199e31d2c0b3599cef7315f08e2fe8f9bd5"), looks := false }, kinds := [], alts := [], laidByText := true, laidKinds := [.data], laidTests := true, laidLooks := .later }
def RoundCopiesCardSaid : Prop := Claim7.holds Tryd.pinned (.plain (OpenSpec.ofChange roundCopiesSpec)) roundCopiesCard

/-- THE SECOND FORM's CARD OF 'drumlinlaw27.RoundNil'. -/
def roundNilUptoCard : Claim7 := { stood := { row := roundNilUptoRow, standIns := [], harness := (true, "78b4ba762495fc154c5a857764e62199e31d2c0b3599cef7315f08e2fe8f9bd5"), looks := false }, kinds := [], alts := [], laidByText := true, laidKinds := [.data], laidTests := true, laidLooks := .later }
def RoundNilUptoCardSaid : Prop := Claim7.holds Tryd.pinned (.plain (OpenSpec.upto roundNilSpec)) roundNilUptoCard

/-- THE SECOND FORM's CARD OF 'drumlinlaw27.RoundPlays'. -/
def roundPlaysUptoCard : Claim7 := { stood := { row := roundPlaysUptoRow, standIns := [], harness := (true, "78b4ba762495fc154c5a857764e62199e31d2c0b3599cef7315f08e2fe8f9bd5"), looks := false }, kinds := [], alts := [], laidByText := true, laidKinds := [.data], laidTests := true, laidLooks := .later }
def RoundPlaysUptoCardSaid : Prop := Claim7.holds Tryd.pinned (.plain (OpenSpec.upto roundPlaysSpec)) roundPlaysUptoCard

/-- THE SECOND FORM's CARD OF 'drumlinlaw27.RoundOnce'. -/
def roundOnceUptoCard : Claim7 := { stood := { row := roundOnceUptoRow, standIns := [], harness := (true, "78b4ba762495fc154c5a857764e62199e31d2c0b3599cef7315f08e2fe8f9bd5"), looks := false }, kinds := [], alts := [], laidByText := true, laidKinds := [.data], laidTests := true, laidLooks := .later }
def RoundOnceUptoCardSaid : Prop := Claim7.holds Tryd.pinned (.plain (OpenSpec.upto roundOnceSpec)) roundOnceUptoCard

/-- THE SECOND FORM's CARD OF 'drumlinlaw27.RoundRefuses'. -/
def roundRefusesUptoCard : Claim7 := { stood := { row := roundRefusesUptoRow, standIns := [], harness := (true, "78b4ba762495fc154c5a857764e62199e31d2c0b3599cef7315f08e2fe8f9bd5"), looks := false }, kinds := [], alts := [], laidByText := true, laidKinds := [.data], laidTests := true, laidLooks := .later }
def RoundRefusesUptoCardSaid : Prop := Claim7.holds Tryd.pinned (.plain (OpenSpec.upto roundRefusesSpec)) roundRefusesUptoCard

/-- THE SECOND FORM's CARD OF 'drumlinlaw27.RoundCopies'. -/
def roundCopiesUptoCard : Claim7 := { stood := { row := roundCopiesUptoRow, standIns := [], harness := (true, "78b4ba762495fc154c5a857764e62199e31d2c0b3599cef7315f08e2fe8f9bd5"), looks := false }, kinds := [], alts := [], laidByText := true, laidKinds := [.data], laidTests := true, laidLooks := .later }
def RoundCopiesUptoCardSaid : Prop := Claim7.holds Tryd.pinned (.plain (OpenSpec.upto roundCopiesSpec)) roundCopiesUptoCard
end Rows
end Go.Proofs.YtaidekdmhmoaeaaDoor
