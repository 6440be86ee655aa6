/-
  Slices of records: as they come in, as they lie in memory.
-/
import Derived.Test.YtiobnhdcapfhgaaRecm
import Derived.Test.YtiobnhdcapfhgaaSls
import Derived.Test.YtiobnhdcapfhgaaRes
namespace Go.Proofs.Ytiobnhdcapfhgaa
open Go.ChangeShapes Go.WideShapes Go.ChangeAt Go.RowKit Go.Joins Go.Deep
set_option linter.unusedVariables false
def Rc.cs (r : Rc) : Array Value := #[.int .i64 r.kind, .int .i64 r.seq, .string r.key, .string r.val]
theorem Rc.v_cs (r : Rc) : r.v = .agg r.cs := rfl
/-- a record's strings are no longer than any string -/
def Rc.Sz (r : Rc) : Prop := r.key.size ≤ maxLen ∧ r.val.size ≤ maxLen
/-- a slice that begins at A reads as these records -/
def IsRs (w : World) (A : Option Addr) (rs : List Rc) : Prop := (∀ r ∈ rs, r.Sz) ∧ (rs = [] ∨ ∃ b off : Nat, A = some ⟨b, off, none⟩ ∧ b < w.heap.size ∧ ∀ (i : Nat) (r : Rc), rs[i]? = some r → ∀ (j : Nat) (u : Value), r.cs[j]? = some u → w.cell? ⟨b, off + (i * 4 + j), none⟩ = some u)
theorem IsRs.nil (w : World) (A : Option Addr) : IsRs w A [] := ⟨fun r hr => by simp at hr, .inl rfl⟩
theorem IsRs.below {w w' : World} {A : Option Addr} {rs : List Rc} {B : Nat} (h : IsRs w A rs) (hb : Below B w w') (hB : w.heap.size ≤ B) : IsRs w' A rs := by
  obtain ⟨h1, h2⟩ := h
  refine ⟨h1, ?_⟩
  rcases h2 with h2 | ⟨b, off, rfl, hlt, hc⟩
  · exact .inl h2
  · exact .inr ⟨b, off, rfl, Nat.lt_of_lt_of_le hlt hb.size, fun i r hr j u hu => (hb.cell (p := ⟨b, off + (i * 4 + j), none⟩) (Nat.lt_of_lt_of_le hlt hB)).trans (hc i r hr j u hu)⟩
theorem IsRs.later {w w' : World} {A : Option Addr} {rs : List Rc} (h : IsRs w A rs) (hb : Below w.heap.size w w') : IsRs w' A rs := h.below hb (Nat.le_refl _)
/-- the record at i: its four cells -/
theorem IsRs.at_ {w : World} {A : Option Addr} {rs : List Rc} (h : IsRs w A rs) {i : Nat} {r : Rc} (hi : rs[i]? = some r) : ∃ b off : Nat, A = some ⟨b, off, none⟩ ∧ b < w.heap.size ∧ w.cell? ⟨b, off + i * 4, none⟩ = some (.int .i64 r.kind) ∧ w.cell? ⟨b, off + i * 4 + 1, none⟩ = some (.int .i64 r.seq) ∧ w.cell? ⟨b, off + i * 4 + 2, none⟩ = some (.string r.key) ∧ w.cell? ⟨b, off + i * 4 + 3, none⟩ = some (.string r.val) := by
  rcases h.2 with h2 | ⟨b, off, rfl, hlt, hc⟩
  · subst h2
    simp at hi
  · have h := hc i r hi
    exact ⟨b, off, rfl, hlt, h 0 _ rfl, by rw [Nat.add_assoc]; exact h 1 _ rfl, by rw [Nat.add_assoc]; exact h 2 _ rfl, by rw [Nat.add_assoc]; exact h 3 _ rfl⟩
section
variable {H : Type} {enc : TypeId × Value → H} {w : World} {base b0 : Nat} {r : Reach} {v : Value} {d : DataW H} {p : List MemPlace}
set_option maxRecDepth 100000 in
theorem open_recs (hv : Value.okWide Try.prog w r b0 49 v) (h : DataW.Trod enc Try.prog w base (fun _ => true) true 49 v d p) :
    ∃ (A : Option Addr) (cap : Nat) (rs : List Rc), v = .slice A rs.length cap ∧ rs.length ≤ cap ∧ cap ≤ maxLen ∧ IsRs w A rs := by
  obtain ⟨a, len, cap, rfl, h1, h2, h3⟩ := open_structs Try.underlying49 Try.underlying46 (by kernel_rfl) (by kernel_rfl) (by decide) hv h
  have key : ∀ i, ∃ x : Rc, i < len → x.Sz ∧ ∀ b off : Nat, a = some ⟨b, off, none⟩ → ∀ (j : Nat) (u : Value), x.cs[j]? = some u → w.cell? ⟨b, off + (i * 4 + j), none⟩ = some u := by
    intro i
    by_cases hi : i < len
    · obtain ⟨b, off, rfl, _, hc⟩ := h3 (by omega)
      obtain ⟨x0, n0, y0, e0, g0⟩ := hc i hi 0 _ rfl
      obtain ⟨x1, n1, y1, e1, g1⟩ := hc i hi 1 _ rfl
      obtain ⟨x2, n2, y2, e2, g2⟩ := hc i hi 2 _ rfl
      obtain ⟨x3, n3, y3, e3, g3⟩ := hc i hi 3 _ rfl
      obtain ⟨a0, q0, _, _⟩ := DataW.trod_int Try.underlying3 g0
      obtain ⟨a1, q1, _, _⟩ := DataW.trod_int Try.underlying2 g1
      obtain ⟨a2, q2, _, s2⟩ := DataW.trod_string Try.underlying9 g2
      obtain ⟨a3, q3, _, s3⟩ := DataW.trod_string Try.underlying9 g3
      simp only [List.cons.injEq, and_true] at q0 q1 q2 q3
      subst q0 q1 q2 q3
      refine ⟨⟨a0, a1, a2, a3⟩, fun _ => ⟨⟨s2, s3⟩, fun b' off' hh j u hj => ?_⟩⟩
      injection hh with hh
      injection hh with hh1 hh2 _
      subst hh1 hh2
      match j, hj with
      | 0, hj => injection hj with hj; subst hj; exact e0
      | 1, hj => injection hj with hj; subst hj; exact e1
      | 2, hj => injection hj with hj; subst hj; exact e2
      | 3, hj => injection hj with hj; subst hj; exact e3
      | j + 4, hj => simp [Rc.cs] at hj
    · exact ⟨Rc.zero, fun h => absurd h hi⟩
  have hl : ((List.range len).map fun i => (key i).choose).length = len := by simp
  have hg : ∀ (i : Nat) (x : Rc), ((List.range len).map fun i => (key i).choose)[i]? = some x → i < len ∧ x = (key i).choose := by
    intro i x hx
    rw [List.getElem?_map] at hx
    rcases Nat.lt_or_ge i len with hi | hi
    · rw [List.getElem?_range hi] at hx
      injection hx with hx
      exact ⟨hi, hx.symm⟩
    · rw [List.getElem?_eq_none (by simpa using hi)] at hx
      cases hx
  refine ⟨a, cap, (List.range len).map fun i => (key i).choose, by rw [hl], by rw [hl]; exact h1, h2, fun x hx => ?_, ?_⟩
  · obtain ⟨i, hi⟩ := List.getElem?_of_mem hx
    obtain ⟨hi', rfl⟩ := hg i x hi
    exact ((key i).choose_spec hi').1
  · rcases Nat.eq_zero_or_pos len with h0 | h0
    · subst h0
      exact .inl rfl
    · obtain ⟨b, off, ha, hlt, _⟩ := h3 h0
      refine .inr ⟨b, off, ha, hlt, fun i x hx j u hu => ?_⟩
      obtain ⟨hi', rfl⟩ := hg i x hx
      exact ((key i).choose_spec hi').2 b off ha j u hu
end
end Go.Proofs.Ytiobnhdcapfhgaa
