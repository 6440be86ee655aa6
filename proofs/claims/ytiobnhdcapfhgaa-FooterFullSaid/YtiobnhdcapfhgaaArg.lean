/-
  Arguments opened: a slice of bytes.
-/
import Derived.Test.YtiobnhdcapfhgaaOpen
import Derived.Test.YtiobnhdcapfhgaaRdc
import Derived.ChangeSlices
namespace Go.Proofs.Ytiobnhdcapfhgaa
open Go.ChangeShapes Go.WideShapes Go.ChangeAt Go.RowKit Go.Joins Go.Deep
set_option linter.unusedVariables false

section
variable {H : Type} {enc : TypeId × Value → H} {w : World} {base b0 : Nat} {r : Reach} {v : Value} {d : DataW H} {p : List MemPlace}
set_option maxRecDepth 100000 in
/-- a slice of bytes that came in -/
theorem open_byts (hv : Value.okWide Try.prog w r b0 24 v) (h : DataW.Trod enc Try.prog w base (fun _ => true) true 24 v d p) :
    ∃ (a : Option Addr) (n cap : Nat) (L : Nat → Int), v = .slice a n cap ∧ Byts w a n cap L := by
  obtain ⟨a0, len, cap, rfl⟩ := okWide_slice Try.underlying24 hv
  obtain ⟨fuel, hf⟩ := h
  rcases open_ints Try.underlying24 Try.underlying5 (by kernel_rfl) hf with ⟨hcs, _⟩ | ⟨a, l, c, zs, hcs, hb, hl, hm, hzl, hx, hcell, hwf⟩
  · simp [Value.cells] at hcs
    obtain ⟨rfl, rfl, rfl⟩ := hcs
    exact ⟨none, 0, 0, fun _ => 0, rfl, Nat.le_refl _, by unfold maxLen; omega, fun i hi => by omega, fun h => absurd h (by omega)⟩
  · simp [Value.cells] at hcs
    obtain ⟨rfl, rfl, rfl⟩ := hcs
    have hzc : zs.length = cap := by simpa using hzl
    refine ⟨some a, len, cap, fun i => zs.getD i 0, rfl, hl, hm, fun i hi => ?_, fun hlen => ?_⟩
    · have hm' : zs.getD i 0 ∈ zs := by
        rw [List.getD_eq_getElem?_getD, List.getElem?_eq_getElem (by omega)]
        exact List.getElem_mem _
      have := bounds_u8 (hwf _ hm')
      omega
    · obtain ⟨b, off, spot⟩ := a
      have hx0 := hcell 0 (by omega)
      have hsp : spot = none := by simpa [Addr.add] using World.cell?_spot hx0
      subst hsp
      refine ⟨b, off, rfl, ?_, fun i hi => ?_⟩
      · have := block_lt_of_cell hx0
        simpa [Addr.add] using this
      · have hc := hcell i (by omega)
        by_cases hi0 : i = 0
        · subst hi0
          simpa [Addr.add] using hc
        · simpa [Addr.add, hi0] using hc
set_option maxRecDepth 100000 in
/-- a slice of bytes that came in, as a list -/
theorem open_bytes (hv : Value.okWide Try.prog w r b0 24 v) (h : DataW.Trod enc Try.prog w base (fun _ => true) true 24 v d p) :
    ∃ (a : Option Addr) (n cap : Nat) (M : List Int), v = .slice a n cap ∧ M.length = n ∧ (0 < n → RB w a M) ∧ BB M ∧ n ≤ cap ∧ cap ≤ maxLen := by
  obtain ⟨a, n, cap, L, rfl, h1, h2, h3, h4⟩ := open_byts hv h
  have hg : ∀ i, i < n → ((List.range n).map L).getD i 0 = L i := fun i hi => by
    rw [List.getD_eq_getElem?_getD, List.getElem?_map, List.getElem?_range hi]
    rfl
  refine ⟨a, n, cap, (List.range n).map L, rfl, by simp, fun hp => ?_, BB.of_getD fun i hi => ?_, h1, h2⟩
  · obtain ⟨b, off, rfl, _, hc⟩ := h4 hp
    exact .inr ⟨b, off, rfl, fun i hi => by
      have hi' : i < n := by simpa using hi
      rw [hc i hi', hg i hi']⟩
  · have hi' : i < n := by simpa using hi
    rw [hg i hi']
    exact h3 i hi'
end
end Go.Proofs.Ytiobnhdcapfhgaa
