/-
  A slice of structs of one-cell fields that came in; the slices of moves and of steps of the chapter.
-/
import Derived.Test.YtjnbkpjpcbmhcaaOpen
namespace Go.Proofs.Ytjnbkpjpcbmhcaa
open Go.ChangeShapes Go.WideShapes Go.ChangeAt Go.RowKit Go.Joins Go.Deep
set_option linter.unusedVariables false

section
variable {H : Type} {enc : TypeId × Value → H} {P : Program} {w : World} {base b0 : Nat}
/-- a slice of structs of one-cell fields: where there is an element, its fields' cells and their readings -/
theorem open_rows {r : Reach} {t e : TypeId} {fs : Array Field} {v : Value} {d : DataW H} {p : List MemPlace} (ht : P.underlying t = some (.slice e)) (he : P.underlying e = some (.struct fs))
    (hone : oneCellFields P fs = true) (hC : P.cellsOf e = fs.size) (hpos : 0 < fs.size) (hv : Value.okWide P w r b0 t v) (h : DataW.Trod enc P w base (fun _ => true) true t v d p) :
    ∃ (a : Option Addr) (len cap : Nat), v = .slice a len cap ∧ len ≤ cap ∧ cap ≤ maxLen ∧ (0 < len → ∃ b off : Nat, a = some ⟨b, off, none⟩ ∧ b < w.heap.size ∧
      ∀ i, i < len → ∀ (j : Nat) (f : Field), fs[j]? = some f → ∃ (x : Value) (n : Nat) (y : DataW H × List MemPlace), w.cell? ⟨b, off + (i * fs.size + j), none⟩ = some x ∧ DataW.trod enc P w base (fun _ => true) true n f.type [x] = some y) := by
  obtain ⟨a0, len, cap, rfl⟩ := okWide_slice ht hv
  obtain ⟨fuel, hf⟩ := h
  rcases open_slice ht hf with ⟨hcs, _⟩ | ⟨a, l, c, m, n, D, Pl, hcs, hb, hl, hm, hmm, hx, hi⟩
  · simp [Value.cells] at hcs
    obtain ⟨rfl, rfl, rfl⟩ := hcs
    exact ⟨none, 0, 0, rfl, Nat.le_refl _, by unfold maxLen; omega, fun h => absurd h (by omega)⟩
  · simp [Value.cells] at hcs
    obtain ⟨rfl, rfl, rfl⟩ := hcs
    refine ⟨some a, len, cap, rfl, hl, hm, fun hlen => ?_⟩
    have hmc : m = cap := by simpa using hmm
    have key : ∀ i, i < len → ∀ (j : Nat) (f : Field), fs[j]? = some f → ∃ (x : Value) (n : Nat) (y : DataW H × List MemPlace), w.cell? (a.add (i * fs.size + j)) = some x ∧ DataW.trod enc P w base (fun _ => true) true n f.type [x] = some y := by
      intro i hil j f hj
      obtain ⟨cs', hc, ht'⟩ := hi i (by omega)
      rw [hC] at hc
      obtain ⟨ys, n', hn', hy, hlen', hyl, hff⟩ := DataW.trod_struct he ht'
      obtain ⟨_, hcl, hat⟩ := World.cells?_some hc
      obtain ⟨ho, hk⟩ := hone_of hone j f hj
      have hjl : j < fs.size := (Array.getElem?_eq_some_iff.1 hj).1
      have hcell := hat j hjl
      have hv : cs'[j]? = some (cs'[j]'(by omega)) := List.getElem?_eq_getElem (by omega)
      have h1 := hff j f hj
      rw [ho, hk] at h1
      have hone' : (cs'.drop j).take 1 = [cs'[j]'(by omega)] := by
        rw [List.drop_eq_getElem_cons (by omega)]
        rfl
      rw [hone'] at h1
      have hys : ys[j]? = some (ys[j]'(by omega)) := List.getElem?_eq_getElem (by omega)
      exact ⟨_, _, _, by rw [← Go.Deep.add_add, hcell, hv], h1.trans hys⟩
    obtain ⟨f0, hf0⟩ : ∃ f, fs[0]? = some f := ⟨_, Array.getElem?_eq_getElem hpos⟩
    obtain ⟨b, off, spot⟩ := a
    obtain ⟨x, _, _, hx0, _⟩ := key 0 hlen 0 f0 hf0
    have hsp : spot = none := by simpa [Addr.add] using World.cell?_spot hx0
    subst hsp
    refine ⟨b, off, rfl, ?_, fun i hil j f hj => ?_⟩
    · have := block_lt_of_cell hx0
      simpa [Addr.add] using this
    · obtain ⟨x, n, y, hx, hy⟩ := key i hil j f hj
      refine ⟨x, n, y, ?_, hy⟩
      rw [← hx]
      congr 1
      unfold Addr.add
      split <;> simp_all
end

/-- a slice of moves: kind and number of each -/
def IsMoves (w : World) (a : Option Addr) (len cap : Nat) (K N : Nat → Int) : Prop :=
  len ≤ cap ∧ cap ≤ maxLen ∧ (∀ i, i < len → 0 ≤ K i ∧ K i ≤ 255 ∧ 0 ≤ N i ∧ N i ≤ 65535) ∧
  (0 < len → ∃ b off : Nat, a = some ⟨b, off, none⟩ ∧ b < w.heap.size ∧ ∀ i, i < len → w.cell? ⟨b, off + i * 2, none⟩ = some (.int .u8 (K i)) ∧ w.cell? ⟨b, off + (i * 2 + 1), none⟩ = some (.int .u16 (N i)))

section
variable {H : Type} {enc : TypeId × Value → H} {w : World} {base b0 : Nat} {r : Reach} {v : Value} {d : DataW H} {p : List MemPlace}
theorem open_moves (hv : Value.okWide Try.prog w r b0 29 v) (h : DataW.Trod enc Try.prog w base (fun _ => true) true 29 v d p) :
    ∃ (a : Option Addr) (len cap : Nat) (K N : Nat → Int), v = .slice a len cap ∧ IsMoves w a len cap K N := by
  obtain ⟨a, len, cap, rfl, h1, h2, h3⟩ := open_rows Try.underlying29 Try.underlying36 (by kernel_rfl) (by kernel_rfl) (by decide) hv h
  have key : ∀ i, ∃ k n : Int, i < len → (0 ≤ k ∧ k ≤ 255 ∧ 0 ≤ n ∧ n ≤ 65535) ∧ ∀ b off : Nat, a = some ⟨b, off, none⟩ → w.cell? ⟨b, off + i * 2, none⟩ = some (.int .u8 k) ∧ w.cell? ⟨b, off + (i * 2 + 1), none⟩ = some (.int .u16 n) := by
    intro i
    by_cases hi : i < len
    · obtain ⟨b, off, rfl, _, hc⟩ := h3 (by omega)
      obtain ⟨x, m, y, e0, g0⟩ := hc i hi 0 _ rfl
      obtain ⟨x', m', y', e1, g1⟩ := hc i hi 1 _ rfl
      obtain ⟨k, q, _, wk⟩ := DataW.trod_int Try.underlying5 g0
      obtain ⟨n, q', _, wn⟩ := DataW.trod_int Try.underlying34 g1
      simp only [List.cons.injEq, and_true] at q q'
      subst q q'
      have bk := bounds_u8 wk
      have bn := bounds_u16 wn
      refine ⟨k, n, fun _ => ⟨⟨bk.1, bk.2, bn.1, bn.2⟩, fun b' off' hh => ?_⟩⟩
      injection hh with hh
      injection hh with hh1 hh2 _
      subst hh1 hh2
      exact ⟨e0, e1⟩
    · exact ⟨0, 0, fun h => absurd h hi⟩
  refine ⟨a, len, cap, fun i => (key i).choose, fun i => (key i).choose_spec.choose, rfl, h1, h2, fun i hi => ((key i).choose_spec.choose_spec hi).1, fun hp => ?_⟩
  obtain ⟨b, off, ha, hlt, _⟩ := h3 hp
  exact ⟨b, off, ha, hlt, fun i hi => ((key i).choose_spec.choose_spec hi).2 b off ha⟩
/-- a move, by value -/
theorem open_move (hv : Value.okWide Try.prog w r b0 36 v) (h : DataW.Trod enc Try.prog w base (fun _ => true) true 36 v d p) :
    ∃ k n : Int, v = .agg #[.int .u8 k, .int .u16 n] ∧ 0 ≤ n ∧ n ≤ 65535 := by
  obtain ⟨cs, rfl, hsz, hf⟩ := open_struct Try.underlying36 (by kernel_rfl) (by kernel_rfl) hv h
  obtain ⟨x0, n0, y0, e0, g0⟩ := hf 0 _ rfl
  obtain ⟨x1, n1, y1, e1, g1⟩ := hf 1 _ rfl
  obtain ⟨a0, q0, _, w0⟩ := DataW.trod_int Try.underlying5 g0
  obtain ⟨a1, q1, _, w1⟩ := DataW.trod_int Try.underlying34 g1
  simp only [List.cons.injEq, and_true] at q0 q1
  subst q0 q1
  have hb := bounds_u16 w1
  refine ⟨a0, a1, ?_, hb.1, hb.2⟩
  congr 1
  apply Array.ext_getElem?
  intro i
  match i with
  | 0 => simpa using e0
  | 1 => simpa using e1
  | n + 2 =>
    have hs : cs.size = 2 := hsz
    rw [Array.getElem?_eq_none (by omega)]
    simp
end
end Go.Proofs.Ytjnbkpjpcbmhcaa
