/-
  The library's table of 32 bytes: from the row's condition to its cells; a world that meets it.
-/
import Derived.Test.YtaidekdmhmoaeaaDoorWks
import Derived.Test.YtaidekdmhmoaeaaDoorOpen
import Derived.Test.YtaidekdmhmoaeaaDoorTie
import Derived.Test.YtaidekdmhmoaeaaDoorCards
import Derived.ChangeSame
import Derived.ChangeVars
import Derived.JoinedOf
import Derived.RowKit
import Derived.RowKitTokens
import Derived.LaidLaws
import Derived.Lib.LaidTab
import Derived.MakeChecks
import Derived.SevenTiedAt
import Derived.Handed
namespace Go.Proofs.YtaidekdmhmoaeaaDoor.Rd
open Go.RowKit
set_option linter.unusedVariables false
def tab : List Int := Lib.deBruijn32tab.map fun (n : Nat) => (n : Int)
theorem laid_tab : Rows.laid_math_bits_deBruijn32tab = Lib.tabData (H := Unit) .u8 tab := by rfl
theorem tab_of_laid {W : World} (h : laidMetH Tryd.prog Rows.roundNilRow.laid W) : Tab W := by
  have h0 : laidMet Tryd.prog Rows.roundNilRow.laid W := h
  have h : laidMet Tryd.prog [("math/bits.deBruijn32tab", Lib.tabData .u8 tab)] W := by
    rw [← laid_tab]
    exact h0
  have ht := Lib.tabIs_of_head (g := 0) (t := 76) (e := 5) (n := 32) (by kernel_rfl) (by kernel_rfl) Tryd.underlying76 Tryd.underlying5 (by kernel_rfl) (by kernel_rfl) h
  intro j hj
  rw [ht.cell (by kernel_rfl) j hj]
  congr 2
  have : ∀ j : Fin 32, tab.getD j.val 0 = ((Lib.deBruijn32tab.getD j.val 0 : Nat) : Int) := by decide +kernel
  exact this ⟨j, hj⟩
noncomputable def laidWorld (os : Os) : World :=
  let w0 := World.holding Tryd.prog os ⟨#[], #[], []⟩
  { w0 with heap := w0.heap.modify 0 fun
      | .cells _ t frozen => .cells (tab.map (Value.int .u8)).toArray t frozen
      | o => o }
theorem laidWorld_met (os : Os) (args : Array Value) : laidMetH Tryd.prog Rows.roundNilRow.laid ((laidWorld os).forCall (fun _ _ => 0) ⟨#[], args, []⟩).memory := by
  show laidMet Tryd.prog Rows.roundNilRow.laid _
  exact laidMet_of_run' 8 (by kernel_rfl) (by kernel_rfl)
theorem no_stand {l : List TypeId} (h : (l.all fun t => Tryd.prog.wantsStandIn t = false) = true) (j : Nat) (t : TypeId) (ht : l[j]? = some t) : Tryd.prog.wantsStandIn t = false := by
  have := List.all_eq_true.1 h t (List.mem_of_getElem? ht)
  simpa using this
end Go.Proofs.YtaidekdmhmoaeaaDoor.Rd
