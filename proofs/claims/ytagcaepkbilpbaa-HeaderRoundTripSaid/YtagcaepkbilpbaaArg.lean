/-
  Arguments opened: a header by value; a slice of bytes.
-/
import Derived.Test.YtagcaepkbilpbaaOpen
import Derived.Test.YtagcaepkbilpbaaDec
import Derived.ChangeSlices
namespace Go.Proofs.Ytagcaepkbilpbaa
open Go.ChangeShapes Go.WideShapes Go.ChangeAt Go.RowKit Go.Joins Go.Deep
set_option linter.unusedVariables false

theorem eq5 {cs : Array Value} {a b c d e : Value} (h : cs.size = 5) (h0 : cs[0]? = some a) (h1 : cs[1]? = some b) (h2 : cs[2]? = some c) (h3 : cs[3]? = some d) (h4 : cs[4]? = some e) :
    cs = #[a, b, c, d, e] := by
  apply Array.ext_getElem?
  intro i
  match i with
  | 0 => simpa using h0
  | 1 => simpa using h1
  | 2 => simpa using h2
  | 3 => simpa using h3
  | 4 => simpa using h4
  | n + 5 => rw [Array.getElem?_eq_none (by omega)]; simp

theorem Byts.below {w w' : World} {a : Option Addr} {n cap : Nat} {L : Nat → Int} (h : Byts w a n cap L) (hb : Below w.heap.size w w') : Byts w' a n cap L := by
  obtain ⟨h1, h2, h3, h4⟩ := h
  refine ⟨h1, h2, h3, fun hn => ?_⟩
  obtain ⟨b, off, rfl, hlt, hc⟩ := h4 hn
  exact ⟨b, off, rfl, Nat.lt_of_lt_of_le hlt hb.size, fun i hi => (hb.cell (p := ⟨b, off + i, none⟩) hlt).trans (hc i hi)⟩
section
variable {H : Type} {enc : TypeId × Value → H} {w : World} {base b0 : Nat} {r : Reach} {v : Value} {d : DataW H} {p : List MemPlace}
/-- a header, by value -/
theorem open_hdr {spare : Nat → Bool} {held : Bool} (hv : Value.okWide Try.prog w r b0 24 v) (h : DataW.Trod enc Try.prog w base spare held 24 v d p) :
    ∃ s k key x q : Int, v = .agg #[.int .u32 s, .int .i64 k, .int .i64 key, .int .i64 x, .int .i64 q] ∧ 0 ≤ s ∧ s ≤ 4294967295 := by
  obtain ⟨cs, rfl, hsz, hf⟩ := open_struct Try.underlying24 (by kernel_rfl) (by kernel_rfl) hv h
  obtain ⟨x0, n0, y0, e0, g0⟩ := hf 0 _ rfl
  obtain ⟨x1, n1, y1, e1, g1⟩ := hf 1 _ rfl
  obtain ⟨x2, n2, y2, e2, g2⟩ := hf 2 _ rfl
  obtain ⟨x3, n3, y3, e3, g3⟩ := hf 3 _ rfl
  obtain ⟨x4, n4, y4, e4, g4⟩ := hf 4 _ rfl
  obtain ⟨a0, q0, _, w0⟩ := DataW.trod_int Try.underlying22 g0
  obtain ⟨a1, q1, _, _⟩ := DataW.trod_int Try.underlying3 g1
  obtain ⟨a2, q2, _, _⟩ := DataW.trod_int Try.underlying3 g2
  obtain ⟨a3, q3, _, _⟩ := DataW.trod_int Try.underlying3 g3
  obtain ⟨a4, q4, _, _⟩ := DataW.trod_int Try.underlying2 g4
  simp only [List.cons.injEq, and_true] at q0 q1 q2 q3 q4
  subst q0 q1 q2 q3 q4
  have hb := bounds_u32 w0
  exact ⟨a0, a1, a2, a3, a4, by rw [eq5 hsz e0 e1 e2 e3 e4], by omega, by omega⟩
/-- a slice of bytes that came in -/
theorem open_byts (hv : Value.okWide Try.prog w r b0 26 v) (h : DataW.Trod enc Try.prog w base (fun _ => true) true 26 v d p) :
    ∃ (a : Option Addr) (n cap : Nat) (L : Nat → Int), v = .slice a n cap ∧ Byts w a n cap L := by
  obtain ⟨a0, len, cap, rfl⟩ := okWide_slice Try.underlying26 hv
  obtain ⟨fuel, hf⟩ := h
  rcases open_ints Try.underlying26 Try.underlying5 (by kernel_rfl) hf with ⟨hcs, _⟩ | ⟨a, l, c, zs, hcs, hb, hl, hm, hzl, hx, hcell, hwf⟩
  · simp [Value.cells] at hcs
    obtain ⟨rfl, rfl, rfl⟩ := hcs
    exact ⟨none, 0, 0, fun _ => 0, rfl, Nat.le_refl _, by unfold maxLen; omega, fun i hi => by omega, fun h => absurd h (by omega)⟩
  · simp [Value.cells] at hcs
    obtain ⟨rfl, rfl, rfl⟩ := hcs
    have hzc : zs.length = cap := by simpa using hzl
    refine ⟨some a, len, cap, fun i => zs.getD i 0, rfl, hl, hm, fun i hi => ?_, fun hlen => ?_⟩
    · have hm' : zs.getD i 0 ∈ zs := by
        rw [List.getD_eq_getElem?_getD, List.getElem?_eq_getElem (by omega)]
        exact List.getElem_mem _
      have := bounds_u8 (hwf _ hm')
      omega
    · obtain ⟨b, off, spot⟩ := a
      have hx0 := hcell 0 (by omega)
      have hsp : spot = none := by simpa [Addr.add] using World.cell?_spot hx0
      subst hsp
      refine ⟨b, off, rfl, ?_, fun i hi => ?_⟩
      · have := block_lt_of_cell hx0
        simpa [Addr.add] using this
      · have hc := hcell i (by omega)
        by_cases hi0 : i = 0
        · subst hi0
          simpa [Addr.add] using hc
        · simpa [Addr.add, hi0] using hc
end
end Go.Proofs.Ytagcaepkbilpbaa
