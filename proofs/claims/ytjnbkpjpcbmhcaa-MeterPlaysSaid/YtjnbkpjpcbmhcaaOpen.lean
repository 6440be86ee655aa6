/-
  Arguments opened: a struct of any number of one-cell fields by value; an array of one-cell elements by value.
-/
import Derived.Test.YtjnbkpjpcbmhcaaRows
import Derived.Test.YtjnbkpjpcbmhcaaMem
import Derived.ProofKit
import Derived.OpenShut
import Derived.ShutString
import Derived.ChangeOld
import Derived.Below
import Derived.Lib.SmallJoins
import Derived.Deep.Fields
import Derived.Deep.Slices
import Derived.SizedLaws
namespace Go.Proofs.Ytjnbkpjpcbmhcaa
open Go.ChangeShapes Go.WideShapes Go.ChangeAt Go.RowKit Go.Joins Go.Deep

theorem own : ownKnob Try.prog.godebug = none := by kernel_rfl
theorem laidOut : laidOutB Try.prog = true := by kernel_rfl

section
variable {H : Type} {enc : TypeId × Value → H} {P : Program} {w : World} {base : Nat} {spare : Nat → Bool} {held : Bool}

/-- a struct of one-cell fields, by value: each field's value and its reading -/
theorem open_struct {r : Reach} {b0 : Nat} {t : TypeId} {fs : Array Field} {v : Value} {d : DataW H} {p : List MemPlace} (hs : P.underlying t = some (.struct fs)) (hone : oneCellFields P fs = true) (hC : P.cellsOf t = fs.size)
    (hv : Value.okWide P w r b0 t v) (h : DataW.Trod enc P w base spare held t v d p) :
    ∃ cs : Array Value, v = .agg cs ∧ cs.size = fs.size ∧ ∀ (j : Nat) (f : Field), fs[j]? = some f → ∃ (x : Value) (n : Nat) (y : DataW H × List MemPlace), cs[j]? = some x ∧ DataW.trod enc P w base spare held n f.type [x] = some y := by
  obtain ⟨cs, rfl, hsz⟩ := okWide_struct hs hv
  refine ⟨cs, rfl, hsz.trans hC, fun j f hj => ?_⟩
  obtain ⟨fuel, hf⟩ := h
  obtain ⟨xs, n, _, _, _, hlen, hg⟩ := DataW.trod_struct hs hf
  obtain ⟨o, k⟩ := hone_of hone j f hj
  have hjl : j < fs.size := (Array.getElem?_eq_some_iff.1 hj).1
  have hcl : j < cs.size := by rw [hsz, hC]; exact hjl
  have h1 := hg j f hj
  rw [o, k] at h1
  have hone' : (((Value.agg cs).cells.toList).drop j).take 1 = [cs[j]] := by
    show (cs.toList.drop j).take 1 = _
    rw [List.drop_eq_getElem_cons (by simpa using hcl)]
    simp
  rw [hone'] at h1
  exact ⟨cs[j], n, xs[j], Array.getElem?_eq_getElem hcl, h1.trans (List.getElem?_eq_getElem (by omega))⟩

/-- an array of one-cell elements, by value -/
theorem open_array {r : Reach} {b0 : Nat} {t e : TypeId} {n : Nat} {v : Value} {d : DataW H} {p : List MemPlace} (ht : P.underlying t = some (.array n e)) (he : P.cellsOf e = 1) (hC : P.cellsOf t = n)
    (hv : Value.okWide P w r b0 t v) (h : DataW.Trod enc P w base spare held t v d p) :
    ∃ cs : Array Value, v = .agg cs ∧ cs.size = n ∧ ∀ (j : Nat), j < n → ∃ (x : Value) (m : Nat) (y : DataW H × List MemPlace), cs[j]? = some x ∧ DataW.trod enc P w base spare held m e [x] = some y := by
  simp only [Value.okWide, ht] at hv
  obtain ⟨cs, rfl, hsz, _⟩ := hv
  refine ⟨cs, rfl, hsz.trans hC, fun j hj => ?_⟩
  obtain ⟨fuel, hf⟩ := h
  obtain ⟨xs, m, _, _, _, hlen, hg⟩ := DataW.trod_array ht hf
  have hcl : j < cs.size := by rw [hsz, hC]; exact hj
  have h1 := hg j hj
  rw [he, Nat.mul_one] at h1
  have hone' : (((Value.agg cs).cells.toList).drop j).take 1 = [cs[j]] := by
    show (cs.toList.drop j).take 1 = _
    rw [List.drop_eq_getElem_cons (by simpa using hcl)]
    simp
  rw [hone'] at h1
  exact ⟨cs[j], m, xs[j], Array.getElem?_eq_getElem hcl, h1.trans (List.getElem?_eq_getElem (by omega))⟩

/-- where a slice's elements lie: its places are the call's caller's own -/
theorem lt_of_Trod {t : TypeId} {v : Value} {d : DataW H} {p : List MemPlace} (h : DataW.Trod enc P w base spare held t v d p) : ∀ x ∈ p, x.block < w.heap.size := by
  obtain ⟨m, hm⟩ := h
  exact DataW.trod_lt m _ _ _ hm
end

theorem eq7 {cs : Array Value} {a b c d e f g : Value} (h : cs.size = 7) (h0 : cs[0]? = some a) (h1 : cs[1]? = some b) (h2 : cs[2]? = some c) (h3 : cs[3]? = some d) (h4 : cs[4]? = some e) (h5 : cs[5]? = some f) (h6 : cs[6]? = some g) :
    cs = #[a, b, c, d, e, f, g] := by
  apply Array.ext_getElem?
  intro i
  match i with
  | 0 => simpa using h0
  | 1 => simpa using h1
  | 2 => simpa using h2
  | 3 => simpa using h3
  | 4 => simpa using h4
  | 5 => simpa using h5
  | 6 => simpa using h6
  | n + 7 => rw [Array.getElem?_eq_none (by omega)]; simp

section
variable {H : Type} {enc : TypeId × Value → H} {w : World} {base b0 : Nat} {spare : Nat → Bool} {held : Bool} {r : Reach} {v : Value} {d : DataW H} {p : List MemPlace}
/-- a configuration, by value -/
theorem open_cfg (hv : Value.okWide Try.prog w r b0 23 v) (h : DataW.Trod enc Try.prog w base spare held 23 v d p) :
    ∃ s z r wk k x p : Int, v = .agg #[.int .i64 s, .int .i64 z, .int .i64 r, .int .i64 wk, .int .i64 k, .int .i64 x, .int .i64 p] := by
  obtain ⟨cs, rfl, hsz, hf⟩ := open_struct Try.underlying23 (by kernel_rfl) (by kernel_rfl) hv h
  obtain ⟨x0, n0, y0, e0, g0⟩ := hf 0 _ rfl
  obtain ⟨x1, n1, y1, e1, g1⟩ := hf 1 _ rfl
  obtain ⟨x2, n2, y2, e2, g2⟩ := hf 2 _ rfl
  obtain ⟨x3, n3, y3, e3, g3⟩ := hf 3 _ rfl
  obtain ⟨x4, n4, y4, e4, g4⟩ := hf 4 _ rfl
  obtain ⟨x5, n5, y5, e5, g5⟩ := hf 5 _ rfl
  obtain ⟨x6, n6, y6, e6, g6⟩ := hf 6 _ rfl
  obtain ⟨a0, q0, _, _⟩ := DataW.trod_int Try.underlying3 g0
  obtain ⟨a1, q1, _, _⟩ := DataW.trod_int Try.underlying3 g1
  obtain ⟨a2, q2, _, _⟩ := DataW.trod_int Try.underlying3 g2
  obtain ⟨a3, q3, _, _⟩ := DataW.trod_int Try.underlying3 g3
  obtain ⟨a4, q4, _, _⟩ := DataW.trod_int Try.underlying3 g4
  obtain ⟨a5, q5, _, _⟩ := DataW.trod_int Try.underlying3 g5
  obtain ⟨a6, q6, _, _⟩ := DataW.trod_int Try.underlying3 g6
  simp only [List.cons.injEq, and_true] at q0 q1 q2 q3 q4 q5 q6
  subst q0 q1 q2 q3 q4 q5 q6
  exact ⟨a0, a1, a2, a3, a4, a5, a6, by rw [eq7 hsz e0 e1 e2 e3 e4 e5 e6]⟩
/-- seven numbers of 32 bits, by value -/
theorem open_u7 (hv : Value.okWide Try.prog w r b0 47 v) (h : DataW.Trod enc Try.prog w base spare held 47 v d p) :
    ∃ a b c d e f g : Int, v = .agg #[.int .u32 a, .int .u32 b, .int .u32 c, .int .u32 d, .int .u32 e, .int .u32 f, .int .u32 g] ∧
      (Lit.int .u32 a).wf = true ∧ (Lit.int .u32 b).wf = true ∧ (Lit.int .u32 c).wf = true ∧ (Lit.int .u32 d).wf = true ∧ (Lit.int .u32 e).wf = true ∧ (Lit.int .u32 f).wf = true ∧ (Lit.int .u32 g).wf = true := by
  obtain ⟨cs, rfl, hsz, hf⟩ := open_array Try.underlying47 (by kernel_rfl) (by kernel_rfl) hv h
  obtain ⟨x0, n0, y0, e0, g0⟩ := hf 0 (by decide)
  obtain ⟨x1, n1, y1, e1, g1⟩ := hf 1 (by decide)
  obtain ⟨x2, n2, y2, e2, g2⟩ := hf 2 (by decide)
  obtain ⟨x3, n3, y3, e3, g3⟩ := hf 3 (by decide)
  obtain ⟨x4, n4, y4, e4, g4⟩ := hf 4 (by decide)
  obtain ⟨x5, n5, y5, e5, g5⟩ := hf 5 (by decide)
  obtain ⟨x6, n6, y6, e6, g6⟩ := hf 6 (by decide)
  obtain ⟨a0, q0, _, w0⟩ := DataW.trod_int Try.underlying45 g0
  obtain ⟨a1, q1, _, w1⟩ := DataW.trod_int Try.underlying45 g1
  obtain ⟨a2, q2, _, w2⟩ := DataW.trod_int Try.underlying45 g2
  obtain ⟨a3, q3, _, w3⟩ := DataW.trod_int Try.underlying45 g3
  obtain ⟨a4, q4, _, w4⟩ := DataW.trod_int Try.underlying45 g4
  obtain ⟨a5, q5, _, w5⟩ := DataW.trod_int Try.underlying45 g5
  obtain ⟨a6, q6, _, w6⟩ := DataW.trod_int Try.underlying45 g6
  simp only [List.cons.injEq, and_true] at q0 q1 q2 q3 q4 q5 q6
  subst q0 q1 q2 q3 q4 q5 q6
  exact ⟨a0, a1, a2, a3, a4, a5, a6, by rw [eq7 hsz e0 e1 e2 e3 e4 e5 e6], w0, w1, w2, w3, w4, w5, w6⟩
end
end Go.Proofs.Ytjnbkpjpcbmhcaa
