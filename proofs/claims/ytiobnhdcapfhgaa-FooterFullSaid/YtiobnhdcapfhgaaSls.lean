/-
  A slice of structs of one-cell fields that came in: each field's cell and its reading.
-/
import Derived.Test.YtiobnhdcapfhgaaOpen
namespace Go.Proofs.Ytiobnhdcapfhgaa
open Go.ChangeShapes Go.WideShapes Go.ChangeAt Go.RowKit Go.Joins Go.Deep
set_option linter.unusedVariables false
section
variable {H : Type} {enc : TypeId × Value → H} {P : Program} {w : World} {base b0 : Nat}
theorem open_structs {r : Reach} {t e : TypeId} {fs : Array Field} {v : Value} {d : DataW H} {p : List MemPlace} (ht : P.underlying t = some (.slice e)) (he : P.underlying e = some (.struct fs))
    (hone : oneCellFields P fs = true) (hC : P.cellsOf e = fs.size) (hpos : 0 < fs.size) (hv : Value.okWide P w r b0 t v) (h : DataW.Trod enc P w base (fun _ => true) true t v d p) :
    ∃ (a : Option Addr) (len cap : Nat), v = .slice a len cap ∧ len ≤ cap ∧ cap ≤ maxLen ∧ (0 < len → ∃ b off : Nat, a = some ⟨b, off, none⟩ ∧ b < w.heap.size ∧
      ∀ i, i < len → ∀ (j : Nat) (f : Field), fs[j]? = some f → ∃ (x : Value) (n : Nat) (y : DataW H × List MemPlace), w.cell? ⟨b, off + (i * fs.size + j), none⟩ = some x ∧ DataW.trod enc P w base (fun _ => true) true n f.type [x] = some y) := by
  obtain ⟨a0, len, cap, rfl⟩ := okWide_slice ht hv
  obtain ⟨fuel, hf⟩ := h
  rcases open_slice ht hf with ⟨hcs, _⟩ | ⟨a, l, c, m, n, D, Pl, hcs, hb, hl, hm, hmm, hx, hi⟩
  · simp [Value.cells] at hcs
    obtain ⟨rfl, rfl, rfl⟩ := hcs
    exact ⟨none, 0, 0, rfl, Nat.le_refl _, by unfold maxLen; omega, fun h => absurd h (by omega)⟩
  · simp [Value.cells] at hcs
    obtain ⟨rfl, rfl, rfl⟩ := hcs
    refine ⟨some a, len, cap, rfl, hl, hm, fun hlen => ?_⟩
    have hmc : m = cap := by simpa using hmm
    have key : ∀ i, i < len → ∀ (j : Nat) (f : Field), fs[j]? = some f → ∃ (x : Value) (n : Nat) (y : DataW H × List MemPlace), w.cell? (a.add (i * fs.size + j)) = some x ∧ DataW.trod enc P w base (fun _ => true) true n f.type [x] = some y := by
      intro i hil j f hj
      obtain ⟨cs', hc, ht'⟩ := hi i (by omega)
      rw [hC] at hc
      obtain ⟨ys, n', _, _, _, hyl, hg⟩ := DataW.trod_struct he ht'
      obtain ⟨o, k⟩ := hone_of hone j f hj
      have hjl : j < fs.size := (Array.getElem?_eq_some_iff.1 hj).1
      obtain ⟨hlen', hcl, hat⟩ := World.cells?_some hc
      have hcell := hat j hjl
      have hv : cs'[j]? = some (cs'[j]'(by omega)) := List.getElem?_eq_getElem (by omega)
      have h1 := hg j f hj
      rw [o, k] at h1
      have hone' : (cs'.drop j).take 1 = [cs'[j]'(by omega)] := by
        rw [List.drop_eq_getElem_cons (by omega)]
        rfl
      rw [hone'] at h1
      have hys : ys[j]? = some (ys[j]'(by omega)) := List.getElem?_eq_getElem (by omega)
      exact ⟨_, _, _, by rw [← Go.Deep.add_add, hcell, hv], h1.trans hys⟩
    obtain ⟨b, off, spot⟩ := a
    have hfs : fs[0]? = some (fs[0]'hpos) := Array.getElem?_eq_getElem hpos
    obtain ⟨x, _, _, hx0, _⟩ := key 0 hlen 0 _ hfs
    have hsp : spot = none := by simpa [Addr.add] using World.cell?_spot hx0
    subst hsp
    refine ⟨b, off, rfl, ?_, fun i hil j f hj => ?_⟩
    · have := block_lt_of_cell hx0
      simpa [Addr.add] using this
    · obtain ⟨x, n, y, hx, hy⟩ := key i hil j f hj
      refine ⟨x, n, y, ?_, hy⟩
      rw [← hx]
      congr 1
      unfold Addr.add
      split <;> simp_all
end
end Go.Proofs.Ytiobnhdcapfhgaa
