/-
  A slice of arrays of one-cell elements that came in; pairs of numbers.
-/
import Derived.Test.YtkicciinneffcaaNum
namespace Go.Proofs.Ytkicciinneffcaa
open Go.ChangeShapes Go.WideShapes Go.ChangeAt Go.RowKit Go.Joins Go.Deep
set_option linter.unusedVariables false

section
variable {H : Type} {enc : TypeId × Value → H} {P : Program} {w : World} {base b0 : Nat}
/-- a slice of structs of one-cell fields: where there is an element, its fields' cells and their readings -/
theorem open_arrs {r : Reach} {t e : TypeId} {k : Nat} {e1 : TypeId} {v : Value} {d : DataW H} {p : List MemPlace} (ht : P.underlying t = some (.slice e)) (he : P.underlying e = some (.array k e1))
    (he1 : P.cellsOf e1 = 1) (hC : P.cellsOf e = k) (hpos : 0 < k) (hv : Value.okWide P w r b0 t v) (h : DataW.Trod enc P w base (fun _ => true) true t v d p) :
    ∃ (a : Option Addr) (len cap : Nat), v = .slice a len cap ∧ len ≤ cap ∧ cap ≤ maxLen ∧ (0 < len → ∃ b off : Nat, a = some ⟨b, off, none⟩ ∧ b < w.heap.size ∧
      ∀ i, i < len → ∀ j : Nat, j < k → ∃ (x : Value) (n : Nat) (y : DataW H × List MemPlace), w.cell? ⟨b, off + (i * k + j), none⟩ = some x ∧ DataW.trod enc P w base (fun _ => true) true n e1 [x] = some y) := by
  obtain ⟨a0, len, cap, rfl⟩ := okWide_slice ht hv
  obtain ⟨fuel, hf⟩ := h
  rcases open_slice ht hf with ⟨hcs, _⟩ | ⟨a, l, c, m, n, D, Pl, hcs, hb, hl, hm, hmm, hx, hi⟩
  · simp [Value.cells] at hcs
    obtain ⟨rfl, rfl, rfl⟩ := hcs
    exact ⟨none, 0, 0, rfl, Nat.le_refl _, by unfold maxLen; omega, fun h => absurd h (by omega)⟩
  · simp [Value.cells] at hcs
    obtain ⟨rfl, rfl, rfl⟩ := hcs
    refine ⟨some a, len, cap, rfl, hl, hm, fun hlen => ?_⟩
    have hmc : m = cap := by simpa using hmm
    have key : ∀ i, i < len → ∀ j : Nat, j < k → ∃ (x : Value) (n : Nat) (y : DataW H × List MemPlace), w.cell? (a.add (i * k + j)) = some x ∧ DataW.trod enc P w base (fun _ => true) true n e1 [x] = some y := by
      intro i hil j hj
      obtain ⟨cs', hc, ht'⟩ := hi i (by omega)
      rw [hC] at hc
      obtain ⟨ys, n', hn', hy, hlen', hyl, hff⟩ := DataW.trod_array he ht'
      obtain ⟨_, hcl, hat⟩ := World.cells?_some hc
      have hcell := hat j hj
      have hv : cs'[j]? = some (cs'[j]'(by omega)) := List.getElem?_eq_getElem (by omega)
      have h1 := hff j hj
      rw [he1, Nat.mul_one] at h1
      have hone' : (cs'.drop j).take 1 = [cs'[j]'(by omega)] := by
        rw [List.drop_eq_getElem_cons (by omega)]
        rfl
      rw [hone'] at h1
      have hys : ys[j]? = some (ys[j]'(by omega)) := List.getElem?_eq_getElem (by omega)
      exact ⟨_, _, _, by rw [← Go.Deep.add_add, hcell, hv], h1.trans hys⟩
    obtain ⟨b, off, spot⟩ := a
    obtain ⟨x, _, _, hx0, _⟩ := key 0 hlen 0 hpos
    have hsp : spot = none := by simpa [Addr.add] using World.cell?_spot hx0
    subst hsp
    refine ⟨b, off, rfl, ?_, fun i hil j hj => ?_⟩
    · have := block_lt_of_cell hx0
      simpa [Addr.add] using this
    · obtain ⟨x, n, y, hx, hy⟩ := key i hil j hj
      refine ⟨x, n, y, ?_, hy⟩
      rw [← hx]
      congr 1
      unfold Addr.add
      split <;> simp_all
end


/-- a slice of pairs of numbers -/
def IsPairs (w : World) (a : Option Addr) (len cap : Nat) (X Y : Nat → Int) : Prop :=
  len ≤ cap ∧ cap ≤ maxLen ∧ (∀ i, i < len → 0 ≤ X i ∧ X i ≤ 65535 ∧ 0 ≤ Y i ∧ Y i ≤ 65535) ∧
  (0 < len → ∃ b off : Nat, a = some ⟨b, off, none⟩ ∧ b < w.heap.size ∧ ∀ i, i < len → w.cell? ⟨b, off + i * 2, none⟩ = some (.int .u16 (X i)) ∧ w.cell? ⟨b, off + (i * 2 + 1), none⟩ = some (.int .u16 (Y i)))
theorem open_pairs {H : Type} {enc : TypeId × Value → H} {w : World} {base b0 : Nat} {r : Reach} {v : Value} {d : DataW H} {p : List MemPlace} (hv : Value.okWide Try.prog w r b0 35 v) (h : DataW.Trod enc Try.prog w base (fun _ => true) true 35 v d p) :
    ∃ (a : Option Addr) (len cap : Nat) (X Y : Nat → Int), v = .slice a len cap ∧ IsPairs w a len cap X Y := by
  obtain ⟨a, len, cap, rfl, h1, h2, h3⟩ := open_arrs Try.underlying35 Try.underlying39 (by kernel_rfl) (by kernel_rfl) (by decide) hv h
  have key : ∀ i, ∃ k n : Int, i < len → (0 ≤ k ∧ k ≤ 65535 ∧ 0 ≤ n ∧ n ≤ 65535) ∧ ∀ b off : Nat, a = some ⟨b, off, none⟩ → w.cell? ⟨b, off + i * 2, none⟩ = some (.int .u16 k) ∧ w.cell? ⟨b, off + (i * 2 + 1), none⟩ = some (.int .u16 n) := by
    intro i
    by_cases hi : i < len
    · obtain ⟨b, off, rfl, _, hc⟩ := h3 (by omega)
      obtain ⟨x, m, y, e0, g0⟩ := hc i hi 0 (by decide)
      obtain ⟨x', m', y', e1, g1⟩ := hc i hi 1 (by decide)
      obtain ⟨k, q, _, wk⟩ := DataW.trod_int Try.underlying32 g0
      obtain ⟨n, q', _, wn⟩ := DataW.trod_int Try.underlying32 g1
      simp only [List.cons.injEq, and_true] at q q'
      subst q q'
      have bk := bounds_u16 wk
      have bn := bounds_u16 wn
      refine ⟨k, n, fun _ => ⟨⟨bk.1, bk.2, bn.1, bn.2⟩, fun b' off' hh => ?_⟩⟩
      injection hh with hh
      injection hh with hh1 hh2 _
      subst hh1 hh2
      exact ⟨e0, e1⟩
    · exact ⟨0, 0, fun h => absurd h hi⟩
  refine ⟨a, len, cap, fun i => (key i).choose, fun i => (key i).choose_spec.choose, rfl, h1, h2, fun i hi => ((key i).choose_spec.choose_spec hi).1, fun hp => ?_⟩
  obtain ⟨b, off, ha, hlt, _⟩ := h3 hp
  exact ⟨b, off, ha, hlt, fun i hi => ((key i).choose_spec.choose_spec hi).2 b off ha⟩
end Go.Proofs.Ytkicciinneffcaa
