/-
  Arguments opened: a struct of any number of one-cell fields by value; an array of one-cell elements by value.
-/
import Derived.Test.YtiobnhdcapfhgaaRows
import Derived.Test.YtiobnhdcapfhgaaMem
import Derived.ProofKit
import Derived.OpenShut
import Derived.ShutString
import Derived.ChangeOld
import Derived.Below
import Derived.Lib.SmallJoins
import Derived.Deep.Fields
import Derived.Deep.Slices
import Derived.SizedLaws
namespace Go.Proofs.Ytiobnhdcapfhgaa
open Go.ChangeShapes Go.WideShapes Go.ChangeAt Go.RowKit Go.Joins Go.Deep

theorem own : ownKnob Try.prog.godebug = none := by kernel_rfl
theorem laidOut : laidOutB Try.prog = true := by kernel_rfl

section
variable {H : Type} {enc : TypeId × Value → H} {P : Program} {w : World} {base : Nat} {spare : Nat → Bool} {held : Bool}

/-- a struct of one-cell fields, by value: each field's value and its reading -/
theorem open_struct {r : Reach} {b0 : Nat} {t : TypeId} {fs : Array Field} {v : Value} {d : DataW H} {p : List MemPlace} (hs : P.underlying t = some (.struct fs)) (hone : oneCellFields P fs = true) (hC : P.cellsOf t = fs.size)
    (hv : Value.okWide P w r b0 t v) (h : DataW.Trod enc P w base spare held t v d p) :
    ∃ cs : Array Value, v = .agg cs ∧ cs.size = fs.size ∧ ∀ (j : Nat) (f : Field), fs[j]? = some f → ∃ (x : Value) (n : Nat) (y : DataW H × List MemPlace), cs[j]? = some x ∧ DataW.trod enc P w base spare held n f.type [x] = some y := by
  obtain ⟨cs, rfl, hsz⟩ := okWide_struct hs hv
  refine ⟨cs, rfl, hsz.trans hC, fun j f hj => ?_⟩
  obtain ⟨fuel, hf⟩ := h
  obtain ⟨xs, n, _, _, _, hlen, hg⟩ := DataW.trod_struct hs hf
  obtain ⟨o, k⟩ := hone_of hone j f hj
  have hjl : j < fs.size := (Array.getElem?_eq_some_iff.1 hj).1
  have hcl : j < cs.size := by rw [hsz, hC]; exact hjl
  have h1 := hg j f hj
  rw [o, k] at h1
  have hone' : (((Value.agg cs).cells.toList).drop j).take 1 = [cs[j]] := by
    show (cs.toList.drop j).take 1 = _
    rw [List.drop_eq_getElem_cons (by simpa using hcl)]
    simp
  rw [hone'] at h1
  exact ⟨cs[j], n, xs[j], Array.getElem?_eq_getElem hcl, h1.trans (List.getElem?_eq_getElem (by omega))⟩

/-- an array of one-cell elements, by value -/
theorem open_array {r : Reach} {b0 : Nat} {t e : TypeId} {n : Nat} {v : Value} {d : DataW H} {p : List MemPlace} (ht : P.underlying t = some (.array n e)) (he : P.cellsOf e = 1) (hC : P.cellsOf t = n)
    (hv : Value.okWide P w r b0 t v) (h : DataW.Trod enc P w base spare held t v d p) :
    ∃ cs : Array Value, v = .agg cs ∧ cs.size = n ∧ ∀ (j : Nat), j < n → ∃ (x : Value) (m : Nat) (y : DataW H × List MemPlace), cs[j]? = some x ∧ DataW.trod enc P w base spare held m e [x] = some y := by
  simp only [Value.okWide, ht] at hv
  obtain ⟨cs, rfl, hsz, _⟩ := hv
  refine ⟨cs, rfl, hsz.trans hC, fun j hj => ?_⟩
  obtain ⟨fuel, hf⟩ := h
  obtain ⟨xs, m, _, _, _, hlen, hg⟩ := DataW.trod_array ht hf
  have hcl : j < cs.size := by rw [hsz, hC]; exact hj
  have h1 := hg j hj
  rw [he, Nat.mul_one] at h1
  have hone' : (((Value.agg cs).cells.toList).drop j).take 1 = [cs[j]] := by
    show (cs.toList.drop j).take 1 = _
    rw [List.drop_eq_getElem_cons (by simpa using hcl)]
    simp
  rw [hone'] at h1
  exact ⟨cs[j], m, xs[j], Array.getElem?_eq_getElem hcl, h1.trans (List.getElem?_eq_getElem (by omega))⟩

/-- where a slice's elements lie: its places are the call's caller's own -/
theorem lt_of_Trod {t : TypeId} {v : Value} {d : DataW H} {p : List MemPlace} (h : DataW.Trod enc P w base spare held t v d p) : ∀ x ∈ p, x.block < w.heap.size := by
  obtain ⟨m, hm⟩ := h
  exact DataW.trod_lt m _ _ _ hm
end

theorem eq7 {cs : Array Value} {a b c d e f g : Value} (h : cs.size = 7) (h0 : cs[0]? = some a) (h1 : cs[1]? = some b) (h2 : cs[2]? = some c) (h3 : cs[3]? = some d) (h4 : cs[4]? = some e) (h5 : cs[5]? = some f) (h6 : cs[6]? = some g) :
    cs = #[a, b, c, d, e, f, g] := by
  apply Array.ext_getElem?
  intro i
  match i with
  | 0 => simpa using h0
  | 1 => simpa using h1
  | 2 => simpa using h2
  | 3 => simpa using h3
  | 4 => simpa using h4
  | 5 => simpa using h5
  | 6 => simpa using h6
  | n + 7 => rw [Array.getElem?_eq_none (by omega)]; simp

end Go.Proofs.Ytiobnhdcapfhgaa
